/- Parts of the proof of Betw: nothing is claimed here by itself. -/
import Derived.Test.YtlcodfjlbhjkbaaKBetw1
import Derived.Shelf.SlSortCmp.QuietGrown
set_option linter.unusedVariables false
set_option linter.unusedSimpArgs false
section
namespace Go.Proofs.Ytlcodfjlbhjkbaa.PDelta
open Go.RowKit Go.Proofs.YtlcodfjlbhjkbaaW.PrintWords Go.Proofs.YtlcodfjlbhjkbaaW.PrintLast Go.Proofs.YtlcodfjlbhjkbaaW.PrintMore
attribute [local go_sem] max2_int min2_int max_two min_two max_three min_three max_four min_four
attribute [local go_sem high] Go.Proofs.Ytlcodfjlbhjkbaa.Ord.leq_str Go.Proofs.Ytlcodfjlbhjkbaa.Ord.gtr_str Go.Proofs.Ytlcodfjlbhjkbaa.Ord.geq_str
noncomputable section
mutual
def replica_op.j0:Nat → Bool → Int → Int → Int → Int → Int → ByteArray → ByteArray → ByteArray → Option (Int)
 | 0,_,_,_,_,_,_,_,_,_=>none
 | k + 1,x3,x102000,x102001,x102002,x102003,x102004,x102005,x102006,x102007=>if x3 = true then (some 8) else (if x102000 < 1 then (replica_op.j1 k true x102000 x102001 x102002 x102003 x102004 x102005 x102006 x102007) else (if x102000 > 1073741824 then (replica_op.j1 k true x102000 x102001 x102002 x102003 x102004 x102005 x102006 x102007) else (if x102001 < 0 then (replica_op.j1 k true x102000 x102001 x102002 x102003 x102004 x102005 x102006 x102007) else (if x102001 > 1000 then (replica_op.j1 k true x102000 x102001 x102002 x102003 x102004 x102005 x102006 x102007) else (if x102003 < 1 then (replica_op.j1 k true x102000 x102001 x102002 x102003 x102004 x102005 x102006 x102007) else (replica_op.j1 k (decide (x102003 > 1073741824)) x102000 x102001 x102002 x102003 x102004 x102005 x102006 x102007))))))
def replica_op.j1:Nat → Bool → Int → Int → Int → Int → Int → ByteArray → ByteArray → ByteArray → Option (Int)
 | 0,_,_,_,_,_,_,_,_,_=>none
 | k + 1,x12,x102000,x102001,x102002,x102003,x102004,x102005,x102006,x102007=>if x12 = true then (some 2) else (if x102002 = 0 then (if x102006.toList = ([]:List UInt8) then (replica_op.j2 k (x102007.toList != ([]:List UInt8)) x102000 x102001 x102002 x102003 x102004 x102005 x102006 x102007) else (replica_op.j2 k true x102000 x102001 x102002 x102003 x102004 x102005 x102006 x102007)) else (replica_op.j2 k false x102000 x102001 x102002 x102003 x102004 x102005 x102006 x102007))
def replica_op.j2:Nat → Bool → Int → Int → Int → Int → Int → ByteArray → ByteArray → ByteArray → Option (Int)
 | 0,_,_,_,_,_,_,_,_,_=>none
 | k + 1,x41,x102000,x102001,x102002,x102003,x102004,x102005,x102006,x102007=>if x41 = true then (replica_op.j3 k x41 x102000 x102001 x102002 x102003 x102004 x102005 x102006 x102007) else (if x102002 = 1 then (if x102004 = 0 then (replica_op.j3 k (x102005.toList != ([]:List UInt8)) x102000 x102001 x102002 x102003 x102004 x102005 x102006 x102007) else (replica_op.j3 k true x102000 x102001 x102002 x102003 x102004 x102005 x102006 x102007)) else (replica_op.j3 k false x102000 x102001 x102002 x102003 x102004 x102005 x102006 x102007))
def replica_op.j3:Nat → Bool → Int → Int → Int → Int → Int → ByteArray → ByteArray → ByteArray → Option (Int)
 | 0,_,_,_,_,_,_,_,_,_=>none
 | k + 1,x41,x102000,x102001,x102002,x102003,x102004,x102005,x102006,x102007=>if x41 = true then (some 4) else (if x102002 = 0 then (if x102004 < (-1) then (replica_op.j4 k true x102000 x102001 x102002 x102003 x102004 x102005 x102006 x102007) else (replica_op.j4 k (decide (x102004 > 1073741824)) x102000 x102001 x102002 x102003 x102004 x102005 x102006 x102007)) else (replica_op.j4 k false x102000 x102001 x102002 x102003 x102004 x102005 x102006 x102007))
def replica_op.j4:Nat → Bool → Int → Int → Int → Int → Int → ByteArray → ByteArray → ByteArray → Option (Int)
 | 0,_,_,_,_,_,_,_,_,_=>none
 | k + 1,x68,x102000,x102001,x102002,x102003,x102004,x102005,x102006,x102007=>if x68 = true then (some 2) else (if x102002 = 0 then ((replica_Place.f k x102005).bind fun t102=>(replica_op.j5 k (!t102) x102000 x102001 x102002 x102003 x102004 x102005 x102006 x102007)) else (replica_op.j5 k false x102000 x102001 x102002 x102003 x102004 x102005 x102006 x102007))
def replica_op.j5:Nat → Bool → Int → Int → Int → Int → Int → ByteArray → ByteArray → ByteArray → Option (Int)
 | 0,_,_,_,_,_,_,_,_,_=>none
 | k + 1,x82,x102000,x102001,x102002,x102003,x102004,x102005,x102006,x102007=>if x82 = true then (replica_op.j6 k x82 x102000 x102001 x102002 x102003 x102004 x102005 x102006 x102007) else (if x102002 = 1 then ((attr_Name.f k x102006).bind fun t103=>(replica_op.j6 k (!t103) x102000 x102001 x102002 x102003 x102004 x102005 x102006 x102007)) else (replica_op.j6 k false x102000 x102001 x102002 x102003 x102004 x102005 x102006 x102007))
def replica_op.j6:Nat → Bool → Int → Int → Int → Int → Int → ByteArray → ByteArray → ByteArray → Option (Int)
 | 0,_,_,_,_,_,_,_,_,_=>none
 | k + 1,x82,x102000,x102001,x102002,x102003,x102004,x102005,x102006,x102007=>if x82 = true then (some 9) else (if x102002 = 1 then (if x102007.toList = ([]:List UInt8) then (some 0) else ((attr_Value.f k x102007).bind fun t104=>(if t104 = true then (some 0) else (some 23)))) else (some 0))
end
def replica_op.f (k:Nat) (a0_0:Int) (a0_1:Int) (a0_2:Int) (a0_3:Int) (a0_4:Int) (a0_5:ByteArray) (a0_6:ByteArray) (a0_7:ByteArray):Option (Int):=if a0_2 = 0 then (replica_op.j0 k false a0_0 a0_1 a0_2 a0_3 a0_4 a0_5 a0_6 a0_7) else (replica_op.j0 k (a0_2 != 1) a0_0 a0_1 a0_2 a0_3 a0_4 a0_5 a0_6 a0_7)
set_option maxHeartbeats 8000000 in
set_option maxRecDepth 100000 in
theorem replica_op.calls (k:Nat) (a0_0:Int) (a0_1:Int) (a0_2:Int) (a0_3:Int) (a0_4:Int) (a0_5:ByteArray) (a0_6:ByteArray) (a0_7:ByteArray) (r:Int) (w:World) (h:replica_op.f k a0_0 a0_1 a0_2 a0_3 a0_4 a0_5 a0_6 a0_7 = some r) :
 Calls Try.prog 106 #[.agg #[.int .i64 a0_0,.int .i64 a0_1,.int .i64 a0_2,.int .i64 a0_3,.int .i64 a0_4,.string a0_5,.string a0_6,.string a0_7]] w fun e w'=>e = .returned (.int .i64 r) ∧ Below w.heap.size w w':=by
 have hu128:=Try.underlying128
 have HB:=Aside0.mk (Below.refl w.heap.size w)
 have H:(if a0_2 = 0 then (replica_op.j0 k false a0_0 a0_1 a0_2 a0_3 a0_4 a0_5 a0_6 a0_7) else (replica_op.j0 k (a0_2 != 1) a0_0 a0_1 a0_2 a0_3 a0_4 a0_5 a0_6 a0_7)) = some r:=h
 clear h
 have HC2:=Aside0.mk H
 clear H
 go_enter Try.func106,Try.ntmps106
 go_upto_region 1 with (((with_reducible refine gate_dst (N:=1) rfl ?_);refine box_event ?hg (N:=1) ?hd (cs:=#[.int .i64 a0_0,.int .i64 a0_1,.int .i64 a0_2,.int .i64 a0_3,.int .i64 a0_4,.string a0_5,.string a0_6,.string a0_7]) (t:=128) ?hr ?_;(case hd=>rfl);(case hg=>rfl);(case hr=>(go_simp;done));intro gb101 hg w3 hbox hb;have n0_:=Aside0.mk (below_step (by with_reducible exact HB.out) hb);have n1_:=Aside0.mk hbox;have n2_:=Aside0.mk ((by rw [hg];exact (below_size (by with_reducible exact HB.out)):w.heap.size ≤ gb101));have n3_:=Aside0.mk ((by rw [hg];exact (below_size (by with_reducible exact HB.out)):w.heap.size ≤ gb101));clear HB;have HB:=n0_;have BK101:=n1_;have GW101:=n2_;have GE101:=n3_;clear n0_ n1_ n2_ n3_;clear hb hbox hg))
 (try simp only [Act.put,List.setIfInBounds_toArray,List.set_cons_zero,List.set_cons_succ])
 go_cut [3] (fun v3 wc=>∃ (kq:Nat) (x3_1:Bool),v3 = .bool x3_1 ∧ Aside0 (replica_op.j0 kq x3_1 a0_0 a0_1 a0_2 a0_3 a0_4 a0_5 a0_6 a0_7 = some r) ∧ Aside0 (kq ≤ k) ∧ Aside0 (wc.heap[gb101]? = some (.cells #[.int .i64 a0_0,.int .i64 a0_1,.int .i64 a0_2,.int .i64 a0_3,.int .i64 a0_4,.string a0_5,.string a0_6,.string a0_7] 128 (0,0))) ∧ Aside0 (Below w.heap.size w wc))
 case first =>
  have H:=HC2.out
  clear HC2
  by_cases c4:a0_2 = 0
  ·rw [if_pos c4] at H
   have c4b0:(a0_2 == 0) = true:=beq_iff_eq.mpr c4
   have c4b1:(a0_2 != 0) = false:=bne_eq_false_iff_eq.mpr c4
   clear c4
   (skip)
   have H':=Aside0.mk H
   clear H
   have hcz5_0:w3.cell? ⟨gb101,0,none⟩ = some (.int .i64 a0_0):=(blk_cell BK101.out 0).trans rfl
   have hcz5_1:w3.cell? ⟨gb101,1,none⟩ = some (.int .i64 a0_1):=(blk_cell BK101.out 1).trans rfl
   have hcz5_2:w3.cell? ⟨gb101,2,none⟩ = some (.int .i64 a0_2):=(blk_cell BK101.out 2).trans rfl
   have hcz5_3:w3.cell? ⟨gb101,3,none⟩ = some (.int .i64 a0_3):=(blk_cell BK101.out 3).trans rfl
   have hcz5_4:w3.cell? ⟨gb101,4,none⟩ = some (.int .i64 a0_4):=(blk_cell BK101.out 4).trans rfl
   have hcz5_5:w3.cell? ⟨gb101,5,none⟩ = some (.string a0_5):=(blk_cell BK101.out 5).trans rfl
   have hcz5_6:w3.cell? ⟨gb101,6,none⟩ = some (.string a0_6):=(blk_cell BK101.out 6).trans rfl
   have hcz5_7:w3.cell? ⟨gb101,7,none⟩ = some (.string a0_7):=(blk_cell BK101.out 7).trans rfl
   have hfz5_0:=blk_frozen BK101.out 0
   have hfz5_1:=blk_frozen BK101.out 1
   have hfz5_2:=blk_frozen BK101.out 2
   have hfz5_3:=blk_frozen BK101.out 3
   have hfz5_4:=blk_frozen BK101.out 4
   have hfz5_5:=blk_frozen BK101.out 5
   have hfz5_6:=blk_frozen BK101.out 6
   have hfz5_7:=blk_frozen BK101.out 7
   go_wp2
   go_meet
   case rel=>exact ⟨_,(false),(by rfl),H',⟨by omega⟩,⟨by exact BK101.out⟩,⟨HB.out⟩⟩
  ·rw [if_neg c4] at H
   have c4b0:(a0_2 == 0) = false:=beq_eq_false_iff_ne.mpr c4
   have c4b1:(a0_2 != 0) = true:=bne_iff_ne.mpr c4
   (skip)
   have H':=Aside0.mk H
   clear H
   have hcz6_0:w3.cell? ⟨gb101,0,none⟩ = some (.int .i64 a0_0):=(blk_cell BK101.out 0).trans rfl
   have hcz6_1:w3.cell? ⟨gb101,1,none⟩ = some (.int .i64 a0_1):=(blk_cell BK101.out 1).trans rfl
   have hcz6_2:w3.cell? ⟨gb101,2,none⟩ = some (.int .i64 a0_2):=(blk_cell BK101.out 2).trans rfl
   have hcz6_3:w3.cell? ⟨gb101,3,none⟩ = some (.int .i64 a0_3):=(blk_cell BK101.out 3).trans rfl
   have hcz6_4:w3.cell? ⟨gb101,4,none⟩ = some (.int .i64 a0_4):=(blk_cell BK101.out 4).trans rfl
   have hcz6_5:w3.cell? ⟨gb101,5,none⟩ = some (.string a0_5):=(blk_cell BK101.out 5).trans rfl
   have hcz6_6:w3.cell? ⟨gb101,6,none⟩ = some (.string a0_6):=(blk_cell BK101.out 6).trans rfl
   have hcz6_7:w3.cell? ⟨gb101,7,none⟩ = some (.string a0_7):=(blk_cell BK101.out 7).trans rfl
   have hfz6_0:=blk_frozen BK101.out 0
   have hfz6_1:=blk_frozen BK101.out 1
   have hfz6_2:=blk_frozen BK101.out 2
   have hfz6_3:=blk_frozen BK101.out 3
   have hfz6_4:=blk_frozen BK101.out 4
   have hfz6_5:=blk_frozen BK101.out 5
   have hfz6_6:=blk_frozen BK101.out 6
   have hfz6_7:=blk_frozen BK101.out 7
   go_wp2
   go_meet
   case rel=>exact ⟨_,((a0_2 != 1)),(by rfl),H',⟨by omega⟩,⟨by exact BK101.out⟩,⟨HB.out⟩⟩
 case rest =>
  clear HC2
  obtain ⟨kq,x3_1,rfl,HA,HJ1,BK101,HB⟩:=hcut
  cases kq with
  | zero=>exact absurd HA.out (by simp [replica_op.j0])
  | succ kj1 =>
   have H:=HA.out
   clear HA
   simp only [replica_op.j0] at H
   by_cases c7:x3_1 = true
   ·subst c7
    have H1:(some 8) = some r:=by rw [if_pos rfl] at H;exact H
    clear H
    have H:=H1
    clear H1
    obtain rfl:=Option.some.inj H
    go_wp2
    go_ret
    exact ⟨by rfl,HB.out⟩
   ·replace c7:=Bool.eq_false_iff.mpr c7
    subst c7
    have H1:(if a0_0 < 1 then (replica_op.j1 kj1 true a0_0 a0_1 a0_2 a0_3 a0_4 a0_5 a0_6 a0_7) else (if a0_0 > 1073741824 then (replica_op.j1 kj1 true a0_0 a0_1 a0_2 a0_3 a0_4 a0_5 a0_6 a0_7) else (if a0_1 < 0 then (replica_op.j1 kj1 true a0_0 a0_1 a0_2 a0_3 a0_4 a0_5 a0_6 a0_7) else (if a0_1 > 1000 then (replica_op.j1 kj1 true a0_0 a0_1 a0_2 a0_3 a0_4 a0_5 a0_6 a0_7) else (if a0_3 < 1 then (replica_op.j1 kj1 true a0_0 a0_1 a0_2 a0_3 a0_4 a0_5 a0_6 a0_7) else (replica_op.j1 kj1 (decide (a0_3 > 1073741824)) a0_0 a0_1 a0_2 a0_3 a0_4 a0_5 a0_6 a0_7)))))) = some r:=by rw [if_neg (show ¬ (false = true) by decide)] at H;exact H
    clear H
    have H:=H1
    clear H1
    have HC8:=Aside0.mk H
    clear H
    go_upto_region 3 with (fail)
    go_cut [12] (fun v12 wc=>∃ (kq:Nat) (x12_7:Bool),v12 = .bool x12_7 ∧ Aside0 (replica_op.j1 kq x12_7 a0_0 a0_1 a0_2 a0_3 a0_4 a0_5 a0_6 a0_7 = some r) ∧ Aside0 (kq ≤ kj1) ∧ Aside0 (wc.heap[gb101]? = some (.cells #[.int .i64 a0_0,.int .i64 a0_1,.int .i64 a0_2,.int .i64 a0_3,.int .i64 a0_4,.string a0_5,.string a0_6,.string a0_7] 128 (0,0))) ∧ Aside0 (Below w.heap.size w wc))
    case first =>
     have H:=HC8.out
     clear HC8
     by_cases c9:a0_0 < 1
     ·rw [if_pos c9] at H
      have c9b0:decide (a0_0 < 1) = true:=decide_eq_true c9
      clear c9
      (skip)
      have H':=Aside0.mk H
      clear H
      have hcz10_0:wc.cell? ⟨gb101,0,none⟩ = some (.int .i64 a0_0):=(blk_cell BK101.out 0).trans rfl
      have hcz10_1:wc.cell? ⟨gb101,1,none⟩ = some (.int .i64 a0_1):=(blk_cell BK101.out 1).trans rfl
      have hcz10_2:wc.cell? ⟨gb101,2,none⟩ = some (.int .i64 a0_2):=(blk_cell BK101.out 2).trans rfl
      have hcz10_3:wc.cell? ⟨gb101,3,none⟩ = some (.int .i64 a0_3):=(blk_cell BK101.out 3).trans rfl
      have hcz10_4:wc.cell? ⟨gb101,4,none⟩ = some (.int .i64 a0_4):=(blk_cell BK101.out 4).trans rfl
      have hcz10_5:wc.cell? ⟨gb101,5,none⟩ = some (.string a0_5):=(blk_cell BK101.out 5).trans rfl
      have hcz10_6:wc.cell? ⟨gb101,6,none⟩ = some (.string a0_6):=(blk_cell BK101.out 6).trans rfl
      have hcz10_7:wc.cell? ⟨gb101,7,none⟩ = some (.string a0_7):=(blk_cell BK101.out 7).trans rfl
      have hfz10_0:=blk_frozen BK101.out 0
      have hfz10_1:=blk_frozen BK101.out 1
      have hfz10_2:=blk_frozen BK101.out 2
      have hfz10_3:=blk_frozen BK101.out 3
      have hfz10_4:=blk_frozen BK101.out 4
      have hfz10_5:=blk_frozen BK101.out 5
      have hfz10_6:=blk_frozen BK101.out 6
      have hfz10_7:=blk_frozen BK101.out 7
      go_wp2
      go_meet
      case rel=>exact ⟨_,(true),(by rfl),H',⟨by have:=HJ1.out;omega⟩,⟨by exact BK101.out⟩,⟨HB.out⟩⟩
     ·rw [if_neg c9] at H
      have c9b0:decide (a0_0 < 1) = false:=decide_eq_false c9
      clear c9
      (skip)
      by_cases c11:a0_0 > 1073741824
      ·rw [if_pos c11] at H
       have c11b0:decide (1073741824 < a0_0) = true:=decide_eq_true c11
       clear c11
       have H':=Aside0.mk H
       clear H
       have hcz12_0:wc.cell? ⟨gb101,0,none⟩ = some (.int .i64 a0_0):=(blk_cell BK101.out 0).trans rfl
       have hcz12_1:wc.cell? ⟨gb101,1,none⟩ = some (.int .i64 a0_1):=(blk_cell BK101.out 1).trans rfl
       have hcz12_2:wc.cell? ⟨gb101,2,none⟩ = some (.int .i64 a0_2):=(blk_cell BK101.out 2).trans rfl
       have hcz12_3:wc.cell? ⟨gb101,3,none⟩ = some (.int .i64 a0_3):=(blk_cell BK101.out 3).trans rfl
       have hcz12_4:wc.cell? ⟨gb101,4,none⟩ = some (.int .i64 a0_4):=(blk_cell BK101.out 4).trans rfl
       have hcz12_5:wc.cell? ⟨gb101,5,none⟩ = some (.string a0_5):=(blk_cell BK101.out 5).trans rfl
       have hcz12_6:wc.cell? ⟨gb101,6,none⟩ = some (.string a0_6):=(blk_cell BK101.out 6).trans rfl
       have hcz12_7:wc.cell? ⟨gb101,7,none⟩ = some (.string a0_7):=(blk_cell BK101.out 7).trans rfl
       have hfz12_0:=blk_frozen BK101.out 0
       have hfz12_1:=blk_frozen BK101.out 1
       have hfz12_2:=blk_frozen BK101.out 2
       have hfz12_3:=blk_frozen BK101.out 3
       have hfz12_4:=blk_frozen BK101.out 4
       have hfz12_5:=blk_frozen BK101.out 5
       have hfz12_6:=blk_frozen BK101.out 6
       have hfz12_7:=blk_frozen BK101.out 7
       go_wp2
       go_meet
       case rel=>exact ⟨_,(true),(by rfl),H',⟨by have:=HJ1.out;omega⟩,⟨by exact BK101.out⟩,⟨HB.out⟩⟩
      ·rw [if_neg c11] at H
       have c11b0:decide (1073741824 < a0_0) = false:=decide_eq_false c11
       clear c11
       by_cases c13:a0_1 < 0
       ·rw [if_pos c13] at H
        have c13b0:decide (a0_1 < 0) = true:=decide_eq_true c13
        clear c13
        have H':=Aside0.mk H
        clear H
        have hcz14_0:wc.cell? ⟨gb101,0,none⟩ = some (.int .i64 a0_0):=(blk_cell BK101.out 0).trans rfl
        have hcz14_1:wc.cell? ⟨gb101,1,none⟩ = some (.int .i64 a0_1):=(blk_cell BK101.out 1).trans rfl
        have hcz14_2:wc.cell? ⟨gb101,2,none⟩ = some (.int .i64 a0_2):=(blk_cell BK101.out 2).trans rfl
        have hcz14_3:wc.cell? ⟨gb101,3,none⟩ = some (.int .i64 a0_3):=(blk_cell BK101.out 3).trans rfl
        have hcz14_4:wc.cell? ⟨gb101,4,none⟩ = some (.int .i64 a0_4):=(blk_cell BK101.out 4).trans rfl
        have hcz14_5:wc.cell? ⟨gb101,5,none⟩ = some (.string a0_5):=(blk_cell BK101.out 5).trans rfl
        have hcz14_6:wc.cell? ⟨gb101,6,none⟩ = some (.string a0_6):=(blk_cell BK101.out 6).trans rfl
        have hcz14_7:wc.cell? ⟨gb101,7,none⟩ = some (.string a0_7):=(blk_cell BK101.out 7).trans rfl
        have hfz14_0:=blk_frozen BK101.out 0
        have hfz14_1:=blk_frozen BK101.out 1
        have hfz14_2:=blk_frozen BK101.out 2
        have hfz14_3:=blk_frozen BK101.out 3
        have hfz14_4:=blk_frozen BK101.out 4
        have hfz14_5:=blk_frozen BK101.out 5
        have hfz14_6:=blk_frozen BK101.out 6
        have hfz14_7:=blk_frozen BK101.out 7
        go_wp2
        go_meet
        case rel=>exact ⟨_,(true),(by rfl),H',⟨by have:=HJ1.out;omega⟩,⟨by exact BK101.out⟩,⟨HB.out⟩⟩
       ·rw [if_neg c13] at H
        have c13b0:decide (a0_1 < 0) = false:=decide_eq_false c13
        clear c13
        by_cases c15:a0_1 > 1000
        ·rw [if_pos c15] at H
         have c15b0:decide (1000 < a0_1) = true:=decide_eq_true c15
         clear c15
         have H':=Aside0.mk H
         clear H
         have hcz16_0:wc.cell? ⟨gb101,0,none⟩ = some (.int .i64 a0_0):=(blk_cell BK101.out 0).trans rfl
         have hcz16_1:wc.cell? ⟨gb101,1,none⟩ = some (.int .i64 a0_1):=(blk_cell BK101.out 1).trans rfl
         have hcz16_2:wc.cell? ⟨gb101,2,none⟩ = some (.int .i64 a0_2):=(blk_cell BK101.out 2).trans rfl
         have hcz16_3:wc.cell? ⟨gb101,3,none⟩ = some (.int .i64 a0_3):=(blk_cell BK101.out 3).trans rfl
         have hcz16_4:wc.cell? ⟨gb101,4,none⟩ = some (.int .i64 a0_4):=(blk_cell BK101.out 4).trans rfl
         have hcz16_5:wc.cell? ⟨gb101,5,none⟩ = some (.string a0_5):=(blk_cell BK101.out 5).trans rfl
         have hcz16_6:wc.cell? ⟨gb101,6,none⟩ = some (.string a0_6):=(blk_cell BK101.out 6).trans rfl
         have hcz16_7:wc.cell? ⟨gb101,7,none⟩ = some (.string a0_7):=(blk_cell BK101.out 7).trans rfl
         have hfz16_0:=blk_frozen BK101.out 0
         have hfz16_1:=blk_frozen BK101.out 1
         have hfz16_2:=blk_frozen BK101.out 2
         have hfz16_3:=blk_frozen BK101.out 3
         have hfz16_4:=blk_frozen BK101.out 4
         have hfz16_5:=blk_frozen BK101.out 5
         have hfz16_6:=blk_frozen BK101.out 6
         have hfz16_7:=blk_frozen BK101.out 7
         go_wp2
         go_meet
         case rel=>exact ⟨_,(true),(by rfl),H',⟨by have:=HJ1.out;omega⟩,⟨by exact BK101.out⟩,⟨HB.out⟩⟩
        ·rw [if_neg c15] at H
         have c15b0:decide (1000 < a0_1) = false:=decide_eq_false c15
         clear c15
         by_cases c17:a0_3 < 1
         ·rw [if_pos c17] at H
          have c17b0:decide (a0_3 < 1) = true:=decide_eq_true c17
          clear c17
          have H':=Aside0.mk H
          clear H
          have hcz18_0:wc.cell? ⟨gb101,0,none⟩ = some (.int .i64 a0_0):=(blk_cell BK101.out 0).trans rfl
          have hcz18_1:wc.cell? ⟨gb101,1,none⟩ = some (.int .i64 a0_1):=(blk_cell BK101.out 1).trans rfl
          have hcz18_2:wc.cell? ⟨gb101,2,none⟩ = some (.int .i64 a0_2):=(blk_cell BK101.out 2).trans rfl
          have hcz18_3:wc.cell? ⟨gb101,3,none⟩ = some (.int .i64 a0_3):=(blk_cell BK101.out 3).trans rfl
          have hcz18_4:wc.cell? ⟨gb101,4,none⟩ = some (.int .i64 a0_4):=(blk_cell BK101.out 4).trans rfl
          have hcz18_5:wc.cell? ⟨gb101,5,none⟩ = some (.string a0_5):=(blk_cell BK101.out 5).trans rfl
          have hcz18_6:wc.cell? ⟨gb101,6,none⟩ = some (.string a0_6):=(blk_cell BK101.out 6).trans rfl
          have hcz18_7:wc.cell? ⟨gb101,7,none⟩ = some (.string a0_7):=(blk_cell BK101.out 7).trans rfl
          have hfz18_0:=blk_frozen BK101.out 0
          have hfz18_1:=blk_frozen BK101.out 1
          have hfz18_2:=blk_frozen BK101.out 2
          have hfz18_3:=blk_frozen BK101.out 3
          have hfz18_4:=blk_frozen BK101.out 4
          have hfz18_5:=blk_frozen BK101.out 5
          have hfz18_6:=blk_frozen BK101.out 6
          have hfz18_7:=blk_frozen BK101.out 7
          go_wp2
          go_meet
          case rel=>exact ⟨_,(true),(by rfl),H',⟨by have:=HJ1.out;omega⟩,⟨by exact BK101.out⟩,⟨HB.out⟩⟩
         ·rw [if_neg c17] at H
          have c17b0:decide (a0_3 < 1) = false:=decide_eq_false c17
          clear c17
          have H':=Aside0.mk H
          clear H
          have hcz19_0:wc.cell? ⟨gb101,0,none⟩ = some (.int .i64 a0_0):=(blk_cell BK101.out 0).trans rfl
          have hcz19_1:wc.cell? ⟨gb101,1,none⟩ = some (.int .i64 a0_1):=(blk_cell BK101.out 1).trans rfl
          have hcz19_2:wc.cell? ⟨gb101,2,none⟩ = some (.int .i64 a0_2):=(blk_cell BK101.out 2).trans rfl
          have hcz19_3:wc.cell? ⟨gb101,3,none⟩ = some (.int .i64 a0_3):=(blk_cell BK101.out 3).trans rfl
          have hcz19_4:wc.cell? ⟨gb101,4,none⟩ = some (.int .i64 a0_4):=(blk_cell BK101.out 4).trans rfl
          have hcz19_5:wc.cell? ⟨gb101,5,none⟩ = some (.string a0_5):=(blk_cell BK101.out 5).trans rfl
          have hcz19_6:wc.cell? ⟨gb101,6,none⟩ = some (.string a0_6):=(blk_cell BK101.out 6).trans rfl
          have hcz19_7:wc.cell? ⟨gb101,7,none⟩ = some (.string a0_7):=(blk_cell BK101.out 7).trans rfl
          have hfz19_0:=blk_frozen BK101.out 0
          have hfz19_1:=blk_frozen BK101.out 1
          have hfz19_2:=blk_frozen BK101.out 2
          have hfz19_3:=blk_frozen BK101.out 3
          have hfz19_4:=blk_frozen BK101.out 4
          have hfz19_5:=blk_frozen BK101.out 5
          have hfz19_6:=blk_frozen BK101.out 6
          have hfz19_7:=blk_frozen BK101.out 7
          go_wp2
          go_meet
          case rel=>exact ⟨_,(decide (a0_3 > 1073741824)),(by rfl),H',⟨by have:=HJ1.out;omega⟩,⟨by exact BK101.out⟩,⟨HB.out⟩⟩
    case rest =>
     clear HC8
     obtain ⟨kq,x12_7,rfl,HA,HJ7,BK101,HB⟩:=hcut
     cases kq with
     | zero=>exact absurd HA.out (by simp [replica_op.j1])
     | succ kj7 =>
      have H:=HA.out
      clear HA
      simp only [replica_op.j1] at H
      by_cases c20:x12_7 = true
      ·subst c20
       have H1:(some 2) = some r:=by rw [if_pos rfl] at H;exact H
       clear H
       have H:=H1
       clear H1
       obtain rfl:=Option.some.inj H
       go_wp2
       go_ret
       exact ⟨by rfl,HB.out⟩
      ·replace c20:=Bool.eq_false_iff.mpr c20
       subst c20
       have H1:(if a0_2 = 0 then (if a0_6.toList = ([]:List UInt8) then (replica_op.j2 kj7 (a0_7.toList != ([]:List UInt8)) a0_0 a0_1 a0_2 a0_3 a0_4 a0_5 a0_6 a0_7) else (replica_op.j2 kj7 true a0_0 a0_1 a0_2 a0_3 a0_4 a0_5 a0_6 a0_7)) else (replica_op.j2 kj7 false a0_0 a0_1 a0_2 a0_3 a0_4 a0_5 a0_6 a0_7)) = some r:=by rw [if_neg (show ¬ (false = true) by decide)] at H;exact H
       clear H
       have H:=H1
       clear H1
       have HC21:=Aside0.mk H
       clear H
       go_upto_region 5 with (fail)
       go_cut [41] (fun v41 wc=>∃ (kq:Nat) (x41_20:Bool),v41 = .bool x41_20 ∧ Aside0 (replica_op.j2 kq x41_20 a0_0 a0_1 a0_2 a0_3 a0_4 a0_5 a0_6 a0_7 = some r) ∧ Aside0 (kq ≤ kj7) ∧ Aside0 (wc.heap[gb101]? = some (.cells #[.int .i64 a0_0,.int .i64 a0_1,.int .i64 a0_2,.int .i64 a0_3,.int .i64 a0_4,.string a0_5,.string a0_6,.string a0_7] 128 (0,0))) ∧ Aside0 (Below w.heap.size w wc))
       case first =>
        have H:=HC21.out
        clear HC21
        by_cases c22:a0_2 = 0
        ·rw [if_pos c22] at H
         have c22b0:(a0_2 == 0) = true:=beq_iff_eq.mpr c22
         have c22b1:(a0_2 != 0) = false:=bne_eq_false_iff_eq.mpr c22
         clear c22
         (skip)
         by_cases c23:a0_6.toList = ([]:List UInt8)
         ·rw [if_pos c23] at H
          have c23b0:(a0_6.toList == ([]:List UInt8)) = true:=beq_iff_eq.mpr c23
          have c23b1:(a0_6.toList != ([]:List UInt8)) = false:=bne_eq_false_iff_eq.mpr c23
          clear c23
          have H':=Aside0.mk H
          clear H
          have hcz24_0:wc.cell? ⟨gb101,0,none⟩ = some (.int .i64 a0_0):=(blk_cell BK101.out 0).trans rfl
          have hcz24_1:wc.cell? ⟨gb101,1,none⟩ = some (.int .i64 a0_1):=(blk_cell BK101.out 1).trans rfl
          have hcz24_2:wc.cell? ⟨gb101,2,none⟩ = some (.int .i64 a0_2):=(blk_cell BK101.out 2).trans rfl
          have hcz24_3:wc.cell? ⟨gb101,3,none⟩ = some (.int .i64 a0_3):=(blk_cell BK101.out 3).trans rfl
          have hcz24_4:wc.cell? ⟨gb101,4,none⟩ = some (.int .i64 a0_4):=(blk_cell BK101.out 4).trans rfl
          have hcz24_5:wc.cell? ⟨gb101,5,none⟩ = some (.string a0_5):=(blk_cell BK101.out 5).trans rfl
          have hcz24_6:wc.cell? ⟨gb101,6,none⟩ = some (.string a0_6):=(blk_cell BK101.out 6).trans rfl
          have hcz24_7:wc.cell? ⟨gb101,7,none⟩ = some (.string a0_7):=(blk_cell BK101.out 7).trans rfl
          have hfz24_0:=blk_frozen BK101.out 0
          have hfz24_1:=blk_frozen BK101.out 1
          have hfz24_2:=blk_frozen BK101.out 2
          have hfz24_3:=blk_frozen BK101.out 3
          have hfz24_4:=blk_frozen BK101.out 4
          have hfz24_5:=blk_frozen BK101.out 5
          have hfz24_6:=blk_frozen BK101.out 6
          have hfz24_7:=blk_frozen BK101.out 7
          go_wp2
          go_meet
          case rel=>exact ⟨_,((a0_7.toList != ([]:List UInt8))),(by (simp <;> exact (fun l:List UInt8=>(by cases l <;> rfl:l.isEmpty = !(l != []))) _)),H',⟨by have:=HJ1.out;have:=HJ7.out;omega⟩,⟨by exact BK101.out⟩,⟨HB.out⟩⟩
         ·rw [if_neg c23] at H
          have c23b0:(a0_6.toList == ([]:List UInt8)) = false:=beq_eq_false_iff_ne.mpr c23
          have c23b1:(a0_6.toList != ([]:List UInt8)) = true:=bne_iff_ne.mpr c23
          have H':=Aside0.mk H
          clear H
          have hcz25_0:wc.cell? ⟨gb101,0,none⟩ = some (.int .i64 a0_0):=(blk_cell BK101.out 0).trans rfl
          have hcz25_1:wc.cell? ⟨gb101,1,none⟩ = some (.int .i64 a0_1):=(blk_cell BK101.out 1).trans rfl
          have hcz25_2:wc.cell? ⟨gb101,2,none⟩ = some (.int .i64 a0_2):=(blk_cell BK101.out 2).trans rfl
          have hcz25_3:wc.cell? ⟨gb101,3,none⟩ = some (.int .i64 a0_3):=(blk_cell BK101.out 3).trans rfl
          have hcz25_4:wc.cell? ⟨gb101,4,none⟩ = some (.int .i64 a0_4):=(blk_cell BK101.out 4).trans rfl
          have hcz25_5:wc.cell? ⟨gb101,5,none⟩ = some (.string a0_5):=(blk_cell BK101.out 5).trans rfl
          have hcz25_6:wc.cell? ⟨gb101,6,none⟩ = some (.string a0_6):=(blk_cell BK101.out 6).trans rfl
          have hcz25_7:wc.cell? ⟨gb101,7,none⟩ = some (.string a0_7):=(blk_cell BK101.out 7).trans rfl
          have hfz25_0:=blk_frozen BK101.out 0
          have hfz25_1:=blk_frozen BK101.out 1
          have hfz25_2:=blk_frozen BK101.out 2
          have hfz25_3:=blk_frozen BK101.out 3
          have hfz25_4:=blk_frozen BK101.out 4
          have hfz25_5:=blk_frozen BK101.out 5
          have hfz25_6:=blk_frozen BK101.out 6
          have hfz25_7:=blk_frozen BK101.out 7
          go_wp2
          go_meet
          case rel=>exact ⟨_,(true),(by rfl),H',⟨by have:=HJ1.out;have:=HJ7.out;omega⟩,⟨by exact BK101.out⟩,⟨HB.out⟩⟩
        ·rw [if_neg c22] at H
         have c22b0:(a0_2 == 0) = false:=beq_eq_false_iff_ne.mpr c22
         have c22b1:(a0_2 != 0) = true:=bne_iff_ne.mpr c22
         (skip)
         have H':=Aside0.mk H
         clear H
         have hcz26_0:wc.cell? ⟨gb101,0,none⟩ = some (.int .i64 a0_0):=(blk_cell BK101.out 0).trans rfl
         have hcz26_1:wc.cell? ⟨gb101,1,none⟩ = some (.int .i64 a0_1):=(blk_cell BK101.out 1).trans rfl
         have hcz26_2:wc.cell? ⟨gb101,2,none⟩ = some (.int .i64 a0_2):=(blk_cell BK101.out 2).trans rfl
         have hcz26_3:wc.cell? ⟨gb101,3,none⟩ = some (.int .i64 a0_3):=(blk_cell BK101.out 3).trans rfl
         have hcz26_4:wc.cell? ⟨gb101,4,none⟩ = some (.int .i64 a0_4):=(blk_cell BK101.out 4).trans rfl
         have hcz26_5:wc.cell? ⟨gb101,5,none⟩ = some (.string a0_5):=(blk_cell BK101.out 5).trans rfl
         have hcz26_6:wc.cell? ⟨gb101,6,none⟩ = some (.string a0_6):=(blk_cell BK101.out 6).trans rfl
         have hcz26_7:wc.cell? ⟨gb101,7,none⟩ = some (.string a0_7):=(blk_cell BK101.out 7).trans rfl
         have hfz26_0:=blk_frozen BK101.out 0
         have hfz26_1:=blk_frozen BK101.out 1
         have hfz26_2:=blk_frozen BK101.out 2
         have hfz26_3:=blk_frozen BK101.out 3
         have hfz26_4:=blk_frozen BK101.out 4
         have hfz26_5:=blk_frozen BK101.out 5
         have hfz26_6:=blk_frozen BK101.out 6
         have hfz26_7:=blk_frozen BK101.out 7
         go_wp2
         go_meet
         case rel=>exact ⟨_,(false),(by rfl),H',⟨by have:=HJ1.out;have:=HJ7.out;omega⟩,⟨by exact BK101.out⟩,⟨HB.out⟩⟩
       case rest =>
        clear HC21
        obtain ⟨kq,x41_20,rfl,HA,HJ20,BK101,HB⟩:=hcut
        cases kq with
        | zero=>exact absurd HA.out (by simp [replica_op.j2])
        | succ kj20 =>
         have H:=HA.out
         clear HA
         simp only [replica_op.j2] at H
         have HC27:=Aside0.mk H
         clear H
         go_upto_if 41 with (fail)
         go_cut [41] (fun v41 wc=>∃ (kq:Nat) (x41_26:Bool),v41 = .bool x41_26 ∧ Aside0 (replica_op.j3 kq x41_26 a0_0 a0_1 a0_2 a0_3 a0_4 a0_5 a0_6 a0_7 = some r) ∧ Aside0 (kq ≤ kj20) ∧ Aside0 (wc.heap[gb101]? = some (.cells #[.int .i64 a0_0,.int .i64 a0_1,.int .i64 a0_2,.int .i64 a0_3,.int .i64 a0_4,.string a0_5,.string a0_6,.string a0_7] 128 (0,0))) ∧ Aside0 (Below w.heap.size w wc))
         case first =>
          have H:=HC27.out
          clear HC27
          by_cases c28:x41_20 = true
          ·subst c28
           have H1:(replica_op.j3 kj20 true a0_0 a0_1 a0_2 a0_3 a0_4 a0_5 a0_6 a0_7) = some r:=by rw [if_pos rfl] at H;exact H
           clear H
           have H:=H1
           clear H1
           have H':=Aside0.mk H
           clear H
           go_wp2
           go_meet
           case rel=>exact ⟨_,(true),(by rfl),H',⟨by have:=HJ1.out;have:=HJ7.out;have:=HJ20.out;omega⟩,⟨by exact BK101.out⟩,⟨HB.out⟩⟩
          ·replace c28:=Bool.eq_false_iff.mpr c28
           subst c28
           have H1:(if a0_2 = 1 then (if a0_4 = 0 then (replica_op.j3 kj20 (a0_5.toList != ([]:List UInt8)) a0_0 a0_1 a0_2 a0_3 a0_4 a0_5 a0_6 a0_7) else (replica_op.j3 kj20 true a0_0 a0_1 a0_2 a0_3 a0_4 a0_5 a0_6 a0_7)) else (replica_op.j3 kj20 false a0_0 a0_1 a0_2 a0_3 a0_4 a0_5 a0_6 a0_7)) = some r:=by rw [if_neg (show ¬ (false = true) by decide)] at H;exact H
           clear H
           have H:=H1
           clear H1
           by_cases c29:a0_2 = 1
           ·rw [if_pos c29] at H
            have c29b0:(a0_2 == 1) = true:=beq_iff_eq.mpr c29
            have c29b1:(a0_2 != 1) = false:=bne_eq_false_iff_eq.mpr c29
            clear c29
            (skip)
            by_cases c30:a0_4 = 0
            ·rw [if_pos c30] at H
             have c30b0:(a0_4 == 0) = true:=beq_iff_eq.mpr c30
             have c30b1:(a0_4 != 0) = false:=bne_eq_false_iff_eq.mpr c30
             clear c30
             have H':=Aside0.mk H
             clear H
             have hcz31_0:wc.cell? ⟨gb101,0,none⟩ = some (.int .i64 a0_0):=(blk_cell BK101.out 0).trans rfl
             have hcz31_1:wc.cell? ⟨gb101,1,none⟩ = some (.int .i64 a0_1):=(blk_cell BK101.out 1).trans rfl
             have hcz31_2:wc.cell? ⟨gb101,2,none⟩ = some (.int .i64 a0_2):=(blk_cell BK101.out 2).trans rfl
             have hcz31_3:wc.cell? ⟨gb101,3,none⟩ = some (.int .i64 a0_3):=(blk_cell BK101.out 3).trans rfl
             have hcz31_4:wc.cell? ⟨gb101,4,none⟩ = some (.int .i64 a0_4):=(blk_cell BK101.out 4).trans rfl
             have hcz31_5:wc.cell? ⟨gb101,5,none⟩ = some (.string a0_5):=(blk_cell BK101.out 5).trans rfl
             have hcz31_6:wc.cell? ⟨gb101,6,none⟩ = some (.string a0_6):=(blk_cell BK101.out 6).trans rfl
             have hcz31_7:wc.cell? ⟨gb101,7,none⟩ = some (.string a0_7):=(blk_cell BK101.out 7).trans rfl
             have hfz31_0:=blk_frozen BK101.out 0
             have hfz31_1:=blk_frozen BK101.out 1
             have hfz31_2:=blk_frozen BK101.out 2
             have hfz31_3:=blk_frozen BK101.out 3
             have hfz31_4:=blk_frozen BK101.out 4
             have hfz31_5:=blk_frozen BK101.out 5
             have hfz31_6:=blk_frozen BK101.out 6
             have hfz31_7:=blk_frozen BK101.out 7
             go_wp2
             go_meet
             case rel=>exact ⟨_,((a0_5.toList != ([]:List UInt8))),(by (simp <;> exact (fun l:List UInt8=>(by cases l <;> rfl:l.isEmpty = !(l != []))) _)),H',⟨by have:=HJ1.out;have:=HJ7.out;have:=HJ20.out;omega⟩,⟨by exact BK101.out⟩,⟨HB.out⟩⟩
            ·rw [if_neg c30] at H
             have c30b0:(a0_4 == 0) = false:=beq_eq_false_iff_ne.mpr c30
             have c30b1:(a0_4 != 0) = true:=bne_iff_ne.mpr c30
             have H':=Aside0.mk H
             clear H
             have hcz32_0:wc.cell? ⟨gb101,0,none⟩ = some (.int .i64 a0_0):=(blk_cell BK101.out 0).trans rfl
             have hcz32_1:wc.cell? ⟨gb101,1,none⟩ = some (.int .i64 a0_1):=(blk_cell BK101.out 1).trans rfl
             have hcz32_2:wc.cell? ⟨gb101,2,none⟩ = some (.int .i64 a0_2):=(blk_cell BK101.out 2).trans rfl
             have hcz32_3:wc.cell? ⟨gb101,3,none⟩ = some (.int .i64 a0_3):=(blk_cell BK101.out 3).trans rfl
             have hcz32_4:wc.cell? ⟨gb101,4,none⟩ = some (.int .i64 a0_4):=(blk_cell BK101.out 4).trans rfl
             have hcz32_5:wc.cell? ⟨gb101,5,none⟩ = some (.string a0_5):=(blk_cell BK101.out 5).trans rfl
             have hcz32_6:wc.cell? ⟨gb101,6,none⟩ = some (.string a0_6):=(blk_cell BK101.out 6).trans rfl
             have hcz32_7:wc.cell? ⟨gb101,7,none⟩ = some (.string a0_7):=(blk_cell BK101.out 7).trans rfl
             have hfz32_0:=blk_frozen BK101.out 0
             have hfz32_1:=blk_frozen BK101.out 1
             have hfz32_2:=blk_frozen BK101.out 2
             have hfz32_3:=blk_frozen BK101.out 3
             have hfz32_4:=blk_frozen BK101.out 4
             have hfz32_5:=blk_frozen BK101.out 5
             have hfz32_6:=blk_frozen BK101.out 6
             have hfz32_7:=blk_frozen BK101.out 7
             go_wp2
             go_meet
             case rel=>exact ⟨_,(true),(by rfl),H',⟨by have:=HJ1.out;have:=HJ7.out;have:=HJ20.out;omega⟩,⟨by exact BK101.out⟩,⟨HB.out⟩⟩
           ·rw [if_neg c29] at H
            have c29b0:(a0_2 == 1) = false:=beq_eq_false_iff_ne.mpr c29
            have c29b1:(a0_2 != 1) = true:=bne_iff_ne.mpr c29
            (skip)
            have H':=Aside0.mk H
            clear H
            have hcz33_0:wc.cell? ⟨gb101,0,none⟩ = some (.int .i64 a0_0):=(blk_cell BK101.out 0).trans rfl
            have hcz33_1:wc.cell? ⟨gb101,1,none⟩ = some (.int .i64 a0_1):=(blk_cell BK101.out 1).trans rfl
            have hcz33_2:wc.cell? ⟨gb101,2,none⟩ = some (.int .i64 a0_2):=(blk_cell BK101.out 2).trans rfl
            have hcz33_3:wc.cell? ⟨gb101,3,none⟩ = some (.int .i64 a0_3):=(blk_cell BK101.out 3).trans rfl
            have hcz33_4:wc.cell? ⟨gb101,4,none⟩ = some (.int .i64 a0_4):=(blk_cell BK101.out 4).trans rfl
            have hcz33_5:wc.cell? ⟨gb101,5,none⟩ = some (.string a0_5):=(blk_cell BK101.out 5).trans rfl
            have hcz33_6:wc.cell? ⟨gb101,6,none⟩ = some (.string a0_6):=(blk_cell BK101.out 6).trans rfl
            have hcz33_7:wc.cell? ⟨gb101,7,none⟩ = some (.string a0_7):=(blk_cell BK101.out 7).trans rfl
            have hfz33_0:=blk_frozen BK101.out 0
            have hfz33_1:=blk_frozen BK101.out 1
            have hfz33_2:=blk_frozen BK101.out 2
            have hfz33_3:=blk_frozen BK101.out 3
            have hfz33_4:=blk_frozen BK101.out 4
            have hfz33_5:=blk_frozen BK101.out 5
            have hfz33_6:=blk_frozen BK101.out 6
            have hfz33_7:=blk_frozen BK101.out 7
            go_wp2
            go_meet
            case rel=>exact ⟨_,(false),(by rfl),H',⟨by have:=HJ1.out;have:=HJ7.out;have:=HJ20.out;omega⟩,⟨by exact BK101.out⟩,⟨HB.out⟩⟩
         case rest =>
          clear HC27
          obtain ⟨kq,x41_26,rfl,HA,HJ26,BK101,HB⟩:=hcut
          cases kq with
          | zero=>exact absurd HA.out (by simp [replica_op.j3])
          | succ kj26 =>
           have H:=HA.out
           clear HA
           simp only [replica_op.j3] at H
           by_cases c34:x41_26 = true
           ·subst c34
            have H1:(some 4) = some r:=by rw [if_pos rfl] at H;exact H
            clear H
            have H:=H1
            clear H1
            obtain rfl:=Option.some.inj H
            go_wp2
            go_ret
            exact ⟨by rfl,HB.out⟩
           ·replace c34:=Bool.eq_false_iff.mpr c34
            subst c34
            have H1:(if a0_2 = 0 then (if a0_4 < (-1) then (replica_op.j4 kj26 true a0_0 a0_1 a0_2 a0_3 a0_4 a0_5 a0_6 a0_7) else (replica_op.j4 kj26 (decide (a0_4 > 1073741824)) a0_0 a0_1 a0_2 a0_3 a0_4 a0_5 a0_6 a0_7)) else (replica_op.j4 kj26 false a0_0 a0_1 a0_2 a0_3 a0_4 a0_5 a0_6 a0_7)) = some r:=by rw [if_neg (show ¬ (false = true) by decide)] at H;exact H
            clear H
            have H:=H1
            clear H1
            have HC35:=Aside0.mk H
            clear H
            go_upto_region 8 with (fail)
            go_cut [68] (fun v68 wc=>∃ (kq:Nat) (x68_34:Bool),v68 = .bool x68_34 ∧ Aside0 (replica_op.j4 kq x68_34 a0_0 a0_1 a0_2 a0_3 a0_4 a0_5 a0_6 a0_7 = some r) ∧ Aside0 (kq ≤ kj26) ∧ Aside0 (wc.heap[gb101]? = some (.cells #[.int .i64 a0_0,.int .i64 a0_1,.int .i64 a0_2,.int .i64 a0_3,.int .i64 a0_4,.string a0_5,.string a0_6,.string a0_7] 128 (0,0))) ∧ Aside0 (Below w.heap.size w wc))
            case first =>
             have H:=HC35.out
             clear HC35
             by_cases c36:a0_2 = 0
             ·rw [if_pos c36] at H
              have c36b0:(a0_2 == 0) = true:=beq_iff_eq.mpr c36
              have c36b1:(a0_2 != 0) = false:=bne_eq_false_iff_eq.mpr c36
              clear c36
              (skip)
              by_cases c37:a0_4 < (-1)
              ·rw [if_pos c37] at H
               have c37b0:decide (a0_4 < (-1)) = true:=decide_eq_true c37
               clear c37
               have H':=Aside0.mk H
               clear H
               have hcz38_0:wc.cell? ⟨gb101,0,none⟩ = some (.int .i64 a0_0):=(blk_cell BK101.out 0).trans rfl
               have hcz38_1:wc.cell? ⟨gb101,1,none⟩ = some (.int .i64 a0_1):=(blk_cell BK101.out 1).trans rfl
               have hcz38_2:wc.cell? ⟨gb101,2,none⟩ = some (.int .i64 a0_2):=(blk_cell BK101.out 2).trans rfl
               have hcz38_3:wc.cell? ⟨gb101,3,none⟩ = some (.int .i64 a0_3):=(blk_cell BK101.out 3).trans rfl
               have hcz38_4:wc.cell? ⟨gb101,4,none⟩ = some (.int .i64 a0_4):=(blk_cell BK101.out 4).trans rfl
               have hcz38_5:wc.cell? ⟨gb101,5,none⟩ = some (.string a0_5):=(blk_cell BK101.out 5).trans rfl
               have hcz38_6:wc.cell? ⟨gb101,6,none⟩ = some (.string a0_6):=(blk_cell BK101.out 6).trans rfl
               have hcz38_7:wc.cell? ⟨gb101,7,none⟩ = some (.string a0_7):=(blk_cell BK101.out 7).trans rfl
               have hfz38_0:=blk_frozen BK101.out 0
               have hfz38_1:=blk_frozen BK101.out 1
               have hfz38_2:=blk_frozen BK101.out 2
               have hfz38_3:=blk_frozen BK101.out 3
               have hfz38_4:=blk_frozen BK101.out 4
               have hfz38_5:=blk_frozen BK101.out 5
               have hfz38_6:=blk_frozen BK101.out 6
               have hfz38_7:=blk_frozen BK101.out 7
               go_wp2
               go_meet
               case rel=>exact ⟨_,(true),(by rfl),H',⟨by have:=HJ1.out;have:=HJ7.out;have:=HJ20.out;have:=HJ26.out;omega⟩,⟨by exact BK101.out⟩,⟨HB.out⟩⟩
              ·rw [if_neg c37] at H
               have c37b0:decide (a0_4 < (-1)) = false:=decide_eq_false c37
               clear c37
               have H':=Aside0.mk H
               clear H
               have hcz39_0:wc.cell? ⟨gb101,0,none⟩ = some (.int .i64 a0_0):=(blk_cell BK101.out 0).trans rfl
               have hcz39_1:wc.cell? ⟨gb101,1,none⟩ = some (.int .i64 a0_1):=(blk_cell BK101.out 1).trans rfl
               have hcz39_2:wc.cell? ⟨gb101,2,none⟩ = some (.int .i64 a0_2):=(blk_cell BK101.out 2).trans rfl
               have hcz39_3:wc.cell? ⟨gb101,3,none⟩ = some (.int .i64 a0_3):=(blk_cell BK101.out 3).trans rfl
               have hcz39_4:wc.cell? ⟨gb101,4,none⟩ = some (.int .i64 a0_4):=(blk_cell BK101.out 4).trans rfl
               have hcz39_5:wc.cell? ⟨gb101,5,none⟩ = some (.string a0_5):=(blk_cell BK101.out 5).trans rfl
               have hcz39_6:wc.cell? ⟨gb101,6,none⟩ = some (.string a0_6):=(blk_cell BK101.out 6).trans rfl
               have hcz39_7:wc.cell? ⟨gb101,7,none⟩ = some (.string a0_7):=(blk_cell BK101.out 7).trans rfl
               have hfz39_0:=blk_frozen BK101.out 0
               have hfz39_1:=blk_frozen BK101.out 1
               have hfz39_2:=blk_frozen BK101.out 2
               have hfz39_3:=blk_frozen BK101.out 3
               have hfz39_4:=blk_frozen BK101.out 4
               have hfz39_5:=blk_frozen BK101.out 5
               have hfz39_6:=blk_frozen BK101.out 6
               have hfz39_7:=blk_frozen BK101.out 7
               go_wp2
               go_meet
               case rel=>exact ⟨_,(decide (a0_4 > 1073741824)),(by rfl),H',⟨by have:=HJ1.out;have:=HJ7.out;have:=HJ20.out;have:=HJ26.out;omega⟩,⟨by exact BK101.out⟩,⟨HB.out⟩⟩
             ·rw [if_neg c36] at H
              have c36b0:(a0_2 == 0) = false:=beq_eq_false_iff_ne.mpr c36
              have c36b1:(a0_2 != 0) = true:=bne_iff_ne.mpr c36
              (skip)
              have H':=Aside0.mk H
              clear H
              have hcz40_0:wc.cell? ⟨gb101,0,none⟩ = some (.int .i64 a0_0):=(blk_cell BK101.out 0).trans rfl
              have hcz40_1:wc.cell? ⟨gb101,1,none⟩ = some (.int .i64 a0_1):=(blk_cell BK101.out 1).trans rfl
              have hcz40_2:wc.cell? ⟨gb101,2,none⟩ = some (.int .i64 a0_2):=(blk_cell BK101.out 2).trans rfl
              have hcz40_3:wc.cell? ⟨gb101,3,none⟩ = some (.int .i64 a0_3):=(blk_cell BK101.out 3).trans rfl
              have hcz40_4:wc.cell? ⟨gb101,4,none⟩ = some (.int .i64 a0_4):=(blk_cell BK101.out 4).trans rfl
              have hcz40_5:wc.cell? ⟨gb101,5,none⟩ = some (.string a0_5):=(blk_cell BK101.out 5).trans rfl
              have hcz40_6:wc.cell? ⟨gb101,6,none⟩ = some (.string a0_6):=(blk_cell BK101.out 6).trans rfl
              have hcz40_7:wc.cell? ⟨gb101,7,none⟩ = some (.string a0_7):=(blk_cell BK101.out 7).trans rfl
              have hfz40_0:=blk_frozen BK101.out 0
              have hfz40_1:=blk_frozen BK101.out 1
              have hfz40_2:=blk_frozen BK101.out 2
              have hfz40_3:=blk_frozen BK101.out 3
              have hfz40_4:=blk_frozen BK101.out 4
              have hfz40_5:=blk_frozen BK101.out 5
              have hfz40_6:=blk_frozen BK101.out 6
              have hfz40_7:=blk_frozen BK101.out 7
              go_wp2
              go_meet
              case rel=>exact ⟨_,(false),(by rfl),H',⟨by have:=HJ1.out;have:=HJ7.out;have:=HJ20.out;have:=HJ26.out;omega⟩,⟨by exact BK101.out⟩,⟨HB.out⟩⟩
            case rest =>
             clear HC35
             obtain ⟨kq,x68_34,rfl,HA,HJ34,BK101,HB⟩:=hcut
             cases kq with
             | zero=>exact absurd HA.out (by simp [replica_op.j4])
             | succ kj34 =>
              have H:=HA.out
              clear HA
              simp only [replica_op.j4] at H
              by_cases c41:x68_34 = true
              ·subst c41
               have H1:(some 2) = some r:=by rw [if_pos rfl] at H;exact H
               clear H
               have H:=H1
               clear H1
               obtain rfl:=Option.some.inj H
               go_wp2
               go_ret
               exact ⟨by rfl,HB.out⟩
              ·replace c41:=Bool.eq_false_iff.mpr c41
               subst c41
               have H1:(if a0_2 = 0 then ((replica_Place.f kj34 a0_5).bind fun t102=>(replica_op.j5 kj34 (!t102) a0_0 a0_1 a0_2 a0_3 a0_4 a0_5 a0_6 a0_7)) else (replica_op.j5 kj34 false a0_0 a0_1 a0_2 a0_3 a0_4 a0_5 a0_6 a0_7)) = some r:=by rw [if_neg (show ¬ (false = true) by decide)] at H;exact H
               clear H
               have H:=H1
               clear H1
               have HC42:=Aside0.mk H
               clear H
               go_upto_region 10 with (fail)
               go_cut [82] (fun v82 wc=>∃ (kq:Nat) (x82_41:Bool),v82 = .bool x82_41 ∧ Aside0 (replica_op.j5 kq x82_41 a0_0 a0_1 a0_2 a0_3 a0_4 a0_5 a0_6 a0_7 = some r) ∧ Aside0 (kq ≤ kj34) ∧ Aside0 (wc.heap[gb101]? = some (.cells #[.int .i64 a0_0,.int .i64 a0_1,.int .i64 a0_2,.int .i64 a0_3,.int .i64 a0_4,.string a0_5,.string a0_6,.string a0_7] 128 (0,0))) ∧ Aside0 (Below w.heap.size w wc))
               case first =>
                have H:=HC42.out
                clear HC42
                by_cases c43:a0_2 = 0
                ·rw [if_pos c43] at H
                 have c43b0:(a0_2 == 0) = true:=beq_iff_eq.mpr c43
                 have c43b1:(a0_2 != 0) = false:=bne_eq_false_iff_eq.mpr c43
                 clear c43
                 (skip)
                 replace H:=Option.bind_eq_some_iff.mp H
                 obtain ⟨t102,A440,H⟩:=H
                 replace H:(replica_op.j5 kj34 (!t102) a0_0 a0_1 a0_2 a0_3 a0_4 a0_5 a0_6 a0_7) = some r:=H
                 have A44:=Aside0.mk A440
                 clear A440
                 have H':=Aside0.mk H
                 clear H
                 have hcz45_0:wc.cell? ⟨gb101,0,none⟩ = some (.int .i64 a0_0):=(blk_cell BK101.out 0).trans rfl
                 have hcz45_1:wc.cell? ⟨gb101,1,none⟩ = some (.int .i64 a0_1):=(blk_cell BK101.out 1).trans rfl
                 have hcz45_2:wc.cell? ⟨gb101,2,none⟩ = some (.int .i64 a0_2):=(blk_cell BK101.out 2).trans rfl
                 have hcz45_3:wc.cell? ⟨gb101,3,none⟩ = some (.int .i64 a0_3):=(blk_cell BK101.out 3).trans rfl
                 have hcz45_4:wc.cell? ⟨gb101,4,none⟩ = some (.int .i64 a0_4):=(blk_cell BK101.out 4).trans rfl
                 have hcz45_5:wc.cell? ⟨gb101,5,none⟩ = some (.string a0_5):=(blk_cell BK101.out 5).trans rfl
                 have hcz45_6:wc.cell? ⟨gb101,6,none⟩ = some (.string a0_6):=(blk_cell BK101.out 6).trans rfl
                 have hcz45_7:wc.cell? ⟨gb101,7,none⟩ = some (.string a0_7):=(blk_cell BK101.out 7).trans rfl
                 have hfz45_0:=blk_frozen BK101.out 0
                 have hfz45_1:=blk_frozen BK101.out 1
                 have hfz45_2:=blk_frozen BK101.out 2
                 have hfz45_3:=blk_frozen BK101.out 3
                 have hfz45_4:=blk_frozen BK101.out 4
                 have hfz45_5:=blk_frozen BK101.out 5
                 have hfz45_6:=blk_frozen BK101.out 6
                 have hfz45_7:=blk_frozen BK101.out 7
                 go_wp2_with ((go_at_call 42;(with_reducible refine (replica_Place.calls kj34 a0_5 t102 _ A44.out).mono ?_);rintro e w' ⟨rfl,⟨nd,rfl⟩⟩))
                 go_meet
                 case rel=>exact ⟨_,(!t102),(by rfl),H',⟨by have:=HJ1.out;have:=HJ7.out;have:=HJ20.out;have:=HJ26.out;have:=HJ34.out;omega⟩,⟨by (with_reducible repeat (refine blk_drewN ?_ _));exact BK101.out⟩,⟨by repeat ((with_reducible first | exact HB.out | apply pw_below_drewN))⟩⟩
                ·rw [if_neg c43] at H
                 have c43b0:(a0_2 == 0) = false:=beq_eq_false_iff_ne.mpr c43
                 have c43b1:(a0_2 != 0) = true:=bne_iff_ne.mpr c43
                 (skip)
                 have H':=Aside0.mk H
                 clear H
                 have hcz46_0:wc.cell? ⟨gb101,0,none⟩ = some (.int .i64 a0_0):=(blk_cell BK101.out 0).trans rfl
                 have hcz46_1:wc.cell? ⟨gb101,1,none⟩ = some (.int .i64 a0_1):=(blk_cell BK101.out 1).trans rfl
                 have hcz46_2:wc.cell? ⟨gb101,2,none⟩ = some (.int .i64 a0_2):=(blk_cell BK101.out 2).trans rfl
                 have hcz46_3:wc.cell? ⟨gb101,3,none⟩ = some (.int .i64 a0_3):=(blk_cell BK101.out 3).trans rfl
                 have hcz46_4:wc.cell? ⟨gb101,4,none⟩ = some (.int .i64 a0_4):=(blk_cell BK101.out 4).trans rfl
                 have hcz46_5:wc.cell? ⟨gb101,5,none⟩ = some (.string a0_5):=(blk_cell BK101.out 5).trans rfl
                 have hcz46_6:wc.cell? ⟨gb101,6,none⟩ = some (.string a0_6):=(blk_cell BK101.out 6).trans rfl
                 have hcz46_7:wc.cell? ⟨gb101,7,none⟩ = some (.string a0_7):=(blk_cell BK101.out 7).trans rfl
                 have hfz46_0:=blk_frozen BK101.out 0
                 have hfz46_1:=blk_frozen BK101.out 1
                 have hfz46_2:=blk_frozen BK101.out 2
                 have hfz46_3:=blk_frozen BK101.out 3
                 have hfz46_4:=blk_frozen BK101.out 4
                 have hfz46_5:=blk_frozen BK101.out 5
                 have hfz46_6:=blk_frozen BK101.out 6
                 have hfz46_7:=blk_frozen BK101.out 7
                 go_wp2
                 go_meet
                 case rel=>exact ⟨_,(false),(by rfl),H',⟨by have:=HJ1.out;have:=HJ7.out;have:=HJ20.out;have:=HJ26.out;have:=HJ34.out;omega⟩,⟨by exact BK101.out⟩,⟨HB.out⟩⟩
               case rest =>
                clear HC42
                obtain ⟨kq,x82_41,rfl,HA,HJ41,BK101,HB⟩:=hcut
                cases kq with
                | zero=>exact absurd HA.out (by simp [replica_op.j5])
                | succ kj41 =>
                 have H:=HA.out
                 clear HA
                 simp only [replica_op.j5] at H
                 have HC47:=Aside0.mk H
                 clear H
                 go_upto_if 82 with (fail)
                 go_cut [82] (fun v82 wc=>∃ (kq:Nat) (x82_46:Bool),v82 = .bool x82_46 ∧ Aside0 (replica_op.j6 kq x82_46 a0_0 a0_1 a0_2 a0_3 a0_4 a0_5 a0_6 a0_7 = some r) ∧ Aside0 (kq ≤ kj41) ∧ Aside0 (wc.heap[gb101]? = some (.cells #[.int .i64 a0_0,.int .i64 a0_1,.int .i64 a0_2,.int .i64 a0_3,.int .i64 a0_4,.string a0_5,.string a0_6,.string a0_7] 128 (0,0))) ∧ Aside0 (Below w.heap.size w wc))
                 case first =>
                  have H:=HC47.out
                  clear HC47
                  by_cases c48:x82_41 = true
                  ·subst c48
                   have H1:(replica_op.j6 kj41 true a0_0 a0_1 a0_2 a0_3 a0_4 a0_5 a0_6 a0_7) = some r:=by rw [if_pos rfl] at H;exact H
                   clear H
                   have H:=H1
                   clear H1
                   have H':=Aside0.mk H
                   clear H
                   go_wp2
                   go_meet
                   case rel=>exact ⟨_,(true),(by rfl),H',⟨by have:=HJ1.out;have:=HJ7.out;have:=HJ20.out;have:=HJ26.out;have:=HJ34.out;have:=HJ41.out;omega⟩,⟨by exact BK101.out⟩,⟨HB.out⟩⟩
                  ·replace c48:=Bool.eq_false_iff.mpr c48
                   subst c48
                   have H1:(if a0_2 = 1 then ((attr_Name.f kj41 a0_6).bind fun t103=>(replica_op.j6 kj41 (!t103) a0_0 a0_1 a0_2 a0_3 a0_4 a0_5 a0_6 a0_7)) else (replica_op.j6 kj41 false a0_0 a0_1 a0_2 a0_3 a0_4 a0_5 a0_6 a0_7)) = some r:=by rw [if_neg (show ¬ (false = true) by decide)] at H;exact H
                   clear H
                   have H:=H1
                   clear H1
                   by_cases c49:a0_2 = 1
                   ·rw [if_pos c49] at H
                    have c49b0:(a0_2 == 1) = true:=beq_iff_eq.mpr c49
                    have c49b1:(a0_2 != 1) = false:=bne_eq_false_iff_eq.mpr c49
                    clear c49
                    (skip)
                    replace H:=Option.bind_eq_some_iff.mp H
                    obtain ⟨t103,A500,H⟩:=H
                    replace H:(replica_op.j6 kj41 (!t103) a0_0 a0_1 a0_2 a0_3 a0_4 a0_5 a0_6 a0_7) = some r:=H
                    have A50:=Aside0.mk A500
                    clear A500
                    have H':=Aside0.mk H
                    clear H
                    have hcz51_0:wc.cell? ⟨gb101,0,none⟩ = some (.int .i64 a0_0):=(blk_cell BK101.out 0).trans rfl
                    have hcz51_1:wc.cell? ⟨gb101,1,none⟩ = some (.int .i64 a0_1):=(blk_cell BK101.out 1).trans rfl
                    have hcz51_2:wc.cell? ⟨gb101,2,none⟩ = some (.int .i64 a0_2):=(blk_cell BK101.out 2).trans rfl
                    have hcz51_3:wc.cell? ⟨gb101,3,none⟩ = some (.int .i64 a0_3):=(blk_cell BK101.out 3).trans rfl
                    have hcz51_4:wc.cell? ⟨gb101,4,none⟩ = some (.int .i64 a0_4):=(blk_cell BK101.out 4).trans rfl
                    have hcz51_5:wc.cell? ⟨gb101,5,none⟩ = some (.string a0_5):=(blk_cell BK101.out 5).trans rfl
                    have hcz51_6:wc.cell? ⟨gb101,6,none⟩ = some (.string a0_6):=(blk_cell BK101.out 6).trans rfl
                    have hcz51_7:wc.cell? ⟨gb101,7,none⟩ = some (.string a0_7):=(blk_cell BK101.out 7).trans rfl
                    have hfz51_0:=blk_frozen BK101.out 0
                    have hfz51_1:=blk_frozen BK101.out 1
                    have hfz51_2:=blk_frozen BK101.out 2
                    have hfz51_3:=blk_frozen BK101.out 3
                    have hfz51_4:=blk_frozen BK101.out 4
                    have hfz51_5:=blk_frozen BK101.out 5
                    have hfz51_6:=blk_frozen BK101.out 6
                    have hfz51_7:=blk_frozen BK101.out 7
                    go_wp2_with ((go_at_call 140;(with_reducible refine (attr_Name.calls kj41 a0_6 t103 _ A50.out).mono ?_);rintro e w' ⟨rfl,⟨nd,rfl⟩⟩))
                    go_meet
                    case rel=>exact ⟨_,(!t103),(by rfl),H',⟨by have:=HJ1.out;have:=HJ7.out;have:=HJ20.out;have:=HJ26.out;have:=HJ34.out;have:=HJ41.out;omega⟩,⟨by (with_reducible repeat (refine blk_drewN ?_ _));exact BK101.out⟩,⟨by repeat ((with_reducible first | exact HB.out | apply pw_below_drewN))⟩⟩
                   ·rw [if_neg c49] at H
                    have c49b0:(a0_2 == 1) = false:=beq_eq_false_iff_ne.mpr c49
                    have c49b1:(a0_2 != 1) = true:=bne_iff_ne.mpr c49
                    (skip)
                    have H':=Aside0.mk H
                    clear H
                    have hcz52_0:wc.cell? ⟨gb101,0,none⟩ = some (.int .i64 a0_0):=(blk_cell BK101.out 0).trans rfl
                    have hcz52_1:wc.cell? ⟨gb101,1,none⟩ = some (.int .i64 a0_1):=(blk_cell BK101.out 1).trans rfl
                    have hcz52_2:wc.cell? ⟨gb101,2,none⟩ = some (.int .i64 a0_2):=(blk_cell BK101.out 2).trans rfl
                    have hcz52_3:wc.cell? ⟨gb101,3,none⟩ = some (.int .i64 a0_3):=(blk_cell BK101.out 3).trans rfl
                    have hcz52_4:wc.cell? ⟨gb101,4,none⟩ = some (.int .i64 a0_4):=(blk_cell BK101.out 4).trans rfl
                    have hcz52_5:wc.cell? ⟨gb101,5,none⟩ = some (.string a0_5):=(blk_cell BK101.out 5).trans rfl
                    have hcz52_6:wc.cell? ⟨gb101,6,none⟩ = some (.string a0_6):=(blk_cell BK101.out 6).trans rfl
                    have hcz52_7:wc.cell? ⟨gb101,7,none⟩ = some (.string a0_7):=(blk_cell BK101.out 7).trans rfl
                    have hfz52_0:=blk_frozen BK101.out 0
                    have hfz52_1:=blk_frozen BK101.out 1
                    have hfz52_2:=blk_frozen BK101.out 2
                    have hfz52_3:=blk_frozen BK101.out 3
                    have hfz52_4:=blk_frozen BK101.out 4
                    have hfz52_5:=blk_frozen BK101.out 5
                    have hfz52_6:=blk_frozen BK101.out 6
                    have hfz52_7:=blk_frozen BK101.out 7
                    go_wp2
                    go_meet
                    case rel=>exact ⟨_,(false),(by rfl),H',⟨by have:=HJ1.out;have:=HJ7.out;have:=HJ20.out;have:=HJ26.out;have:=HJ34.out;have:=HJ41.out;omega⟩,⟨by exact BK101.out⟩,⟨HB.out⟩⟩
                 case rest =>
                  clear HC47
                  obtain ⟨kq,x82_46,rfl,HA,HJ46,BK101,HB⟩:=hcut
                  cases kq with
                  | zero=>exact absurd HA.out (by simp [replica_op.j6])
                  | succ kj46 =>
                   have H:=HA.out
                   clear HA
                   simp only [replica_op.j6] at H
                   by_cases c53:x82_46 = true
                   ·subst c53
                    have H1:(some 9) = some r:=by rw [if_pos rfl] at H;exact H
                    clear H
                    have H:=H1
                    clear H1
                    obtain rfl:=Option.some.inj H
                    go_wp2
                    go_ret
                    exact ⟨by rfl,HB.out⟩
                   ·replace c53:=Bool.eq_false_iff.mpr c53
                    subst c53
                    have H1:(if a0_2 = 1 then (if a0_7.toList = ([]:List UInt8) then (some 0) else ((attr_Value.f kj46 a0_7).bind fun t104=>(if t104 = true then (some 0) else (some 23)))) else (some 0)) = some r:=by rw [if_neg (show ¬ (false = true) by decide)] at H;exact H
                    clear H
                    have H:=H1
                    clear H1
                    by_cases c54:a0_2 = 1
                    ·rw [if_pos c54] at H
                     have c54b0:(a0_2 == 1) = true:=beq_iff_eq.mpr c54
                     have c54b1:(a0_2 != 1) = false:=bne_eq_false_iff_eq.mpr c54
                     clear c54
                     by_cases c55:a0_7.toList = ([]:List UInt8)
                     ·rw [if_pos c55] at H
                      have c55b0:(a0_7.toList == ([]:List UInt8)) = true:=beq_iff_eq.mpr c55
                      have c55b1:(a0_7.toList != ([]:List UInt8)) = false:=bne_eq_false_iff_eq.mpr c55
                      clear c55
                      obtain rfl:=Option.some.inj H
                      have hcz56_0:wc.cell? ⟨gb101,0,none⟩ = some (.int .i64 a0_0):=(blk_cell BK101.out 0).trans rfl
                      have hcz56_1:wc.cell? ⟨gb101,1,none⟩ = some (.int .i64 a0_1):=(blk_cell BK101.out 1).trans rfl
                      have hcz56_2:wc.cell? ⟨gb101,2,none⟩ = some (.int .i64 a0_2):=(blk_cell BK101.out 2).trans rfl
                      have hcz56_3:wc.cell? ⟨gb101,3,none⟩ = some (.int .i64 a0_3):=(blk_cell BK101.out 3).trans rfl
                      have hcz56_4:wc.cell? ⟨gb101,4,none⟩ = some (.int .i64 a0_4):=(blk_cell BK101.out 4).trans rfl
                      have hcz56_5:wc.cell? ⟨gb101,5,none⟩ = some (.string a0_5):=(blk_cell BK101.out 5).trans rfl
                      have hcz56_6:wc.cell? ⟨gb101,6,none⟩ = some (.string a0_6):=(blk_cell BK101.out 6).trans rfl
                      have hcz56_7:wc.cell? ⟨gb101,7,none⟩ = some (.string a0_7):=(blk_cell BK101.out 7).trans rfl
                      have hfz56_0:=blk_frozen BK101.out 0
                      have hfz56_1:=blk_frozen BK101.out 1
                      have hfz56_2:=blk_frozen BK101.out 2
                      have hfz56_3:=blk_frozen BK101.out 3
                      have hfz56_4:=blk_frozen BK101.out 4
                      have hfz56_5:=blk_frozen BK101.out 5
                      have hfz56_6:=blk_frozen BK101.out 6
                      have hfz56_7:=blk_frozen BK101.out 7
                      go_wp2
                      go_ret
                      exact ⟨by rfl,HB.out⟩
                     ·rw [if_neg c55] at H
                      have c55b0:(a0_7.toList == ([]:List UInt8)) = false:=beq_eq_false_iff_ne.mpr c55
                      have c55b1:(a0_7.toList != ([]:List UInt8)) = true:=bne_iff_ne.mpr c55
                      replace H:=Option.bind_eq_some_iff.mp H
                      obtain ⟨t104,A570,H⟩:=H
                      replace H:(if t104 = true then (some 0) else (some 23)) = some r:=H
                      have A57:=Aside0.mk A570
                      clear A570
                      by_cases c58:t104 = true
                      ·subst c58
                       have H1:(some 0) = some r:=by rw [if_pos rfl] at H;exact H
                       clear H
                       have H:=H1
                       clear H1
                       obtain rfl:=Option.some.inj H
                       have hcz59_0:wc.cell? ⟨gb101,0,none⟩ = some (.int .i64 a0_0):=(blk_cell BK101.out 0).trans rfl
                       have hcz59_1:wc.cell? ⟨gb101,1,none⟩ = some (.int .i64 a0_1):=(blk_cell BK101.out 1).trans rfl
                       have hcz59_2:wc.cell? ⟨gb101,2,none⟩ = some (.int .i64 a0_2):=(blk_cell BK101.out 2).trans rfl
                       have hcz59_3:wc.cell? ⟨gb101,3,none⟩ = some (.int .i64 a0_3):=(blk_cell BK101.out 3).trans rfl
                       have hcz59_4:wc.cell? ⟨gb101,4,none⟩ = some (.int .i64 a0_4):=(blk_cell BK101.out 4).trans rfl
                       have hcz59_5:wc.cell? ⟨gb101,5,none⟩ = some (.string a0_5):=(blk_cell BK101.out 5).trans rfl
                       have hcz59_6:wc.cell? ⟨gb101,6,none⟩ = some (.string a0_6):=(blk_cell BK101.out 6).trans rfl
                       have hcz59_7:wc.cell? ⟨gb101,7,none⟩ = some (.string a0_7):=(blk_cell BK101.out 7).trans rfl
                       have hfz59_0:=blk_frozen BK101.out 0
                       have hfz59_1:=blk_frozen BK101.out 1
                       have hfz59_2:=blk_frozen BK101.out 2
                       have hfz59_3:=blk_frozen BK101.out 3
                       have hfz59_4:=blk_frozen BK101.out 4
                       have hfz59_5:=blk_frozen BK101.out 5
                       have hfz59_6:=blk_frozen BK101.out 6
                       have hfz59_7:=blk_frozen BK101.out 7
                       go_wp2_with ((go_at_call 141;(with_reducible refine (attr_Value.calls kj46 a0_7 true _ A57.out).mono ?_);rintro e w' ⟨rfl,⟨nd,rfl⟩⟩))
                       go_ret
                       exact ⟨by rfl,by repeat ((with_reducible first | exact HB.out | apply pw_below_drewN))⟩
                      ·replace c58:=Bool.eq_false_iff.mpr c58
                       subst c58
                       have H1:(some 23) = some r:=by rw [if_neg (show ¬ (false = true) by decide)] at H;exact H
                       clear H
                       have H:=H1
                       clear H1
                       obtain rfl:=Option.some.inj H
                       have hcz60_0:wc.cell? ⟨gb101,0,none⟩ = some (.int .i64 a0_0):=(blk_cell BK101.out 0).trans rfl
                       have hcz60_1:wc.cell? ⟨gb101,1,none⟩ = some (.int .i64 a0_1):=(blk_cell BK101.out 1).trans rfl
                       have hcz60_2:wc.cell? ⟨gb101,2,none⟩ = some (.int .i64 a0_2):=(blk_cell BK101.out 2).trans rfl
                       have hcz60_3:wc.cell? ⟨gb101,3,none⟩ = some (.int .i64 a0_3):=(blk_cell BK101.out 3).trans rfl
                       have hcz60_4:wc.cell? ⟨gb101,4,none⟩ = some (.int .i64 a0_4):=(blk_cell BK101.out 4).trans rfl
                       have hcz60_5:wc.cell? ⟨gb101,5,none⟩ = some (.string a0_5):=(blk_cell BK101.out 5).trans rfl
                       have hcz60_6:wc.cell? ⟨gb101,6,none⟩ = some (.string a0_6):=(blk_cell BK101.out 6).trans rfl
                       have hcz60_7:wc.cell? ⟨gb101,7,none⟩ = some (.string a0_7):=(blk_cell BK101.out 7).trans rfl
                       have hfz60_0:=blk_frozen BK101.out 0
                       have hfz60_1:=blk_frozen BK101.out 1
                       have hfz60_2:=blk_frozen BK101.out 2
                       have hfz60_3:=blk_frozen BK101.out 3
                       have hfz60_4:=blk_frozen BK101.out 4
                       have hfz60_5:=blk_frozen BK101.out 5
                       have hfz60_6:=blk_frozen BK101.out 6
                       have hfz60_7:=blk_frozen BK101.out 7
                       go_wp2_with ((go_at_call 141;(with_reducible refine (attr_Value.calls kj46 a0_7 false _ A57.out).mono ?_);rintro e w' ⟨rfl,⟨nd,rfl⟩⟩))
                       go_ret
                       exact ⟨by rfl,by repeat ((with_reducible first | exact HB.out | apply pw_below_drewN))⟩
                    ·rw [if_neg c54] at H
                     have c54b0:(a0_2 == 1) = false:=beq_eq_false_iff_ne.mpr c54
                     have c54b1:(a0_2 != 1) = true:=bne_iff_ne.mpr c54
                     obtain rfl:=Option.some.inj H
                     have hcz61_0:wc.cell? ⟨gb101,0,none⟩ = some (.int .i64 a0_0):=(blk_cell BK101.out 0).trans rfl
                     have hcz61_1:wc.cell? ⟨gb101,1,none⟩ = some (.int .i64 a0_1):=(blk_cell BK101.out 1).trans rfl
                     have hcz61_2:wc.cell? ⟨gb101,2,none⟩ = some (.int .i64 a0_2):=(blk_cell BK101.out 2).trans rfl
                     have hcz61_3:wc.cell? ⟨gb101,3,none⟩ = some (.int .i64 a0_3):=(blk_cell BK101.out 3).trans rfl
                     have hcz61_4:wc.cell? ⟨gb101,4,none⟩ = some (.int .i64 a0_4):=(blk_cell BK101.out 4).trans rfl
                     have hcz61_5:wc.cell? ⟨gb101,5,none⟩ = some (.string a0_5):=(blk_cell BK101.out 5).trans rfl
                     have hcz61_6:wc.cell? ⟨gb101,6,none⟩ = some (.string a0_6):=(blk_cell BK101.out 6).trans rfl
                     have hcz61_7:wc.cell? ⟨gb101,7,none⟩ = some (.string a0_7):=(blk_cell BK101.out 7).trans rfl
                     have hfz61_0:=blk_frozen BK101.out 0
                     have hfz61_1:=blk_frozen BK101.out 1
                     have hfz61_2:=blk_frozen BK101.out 2
                     have hfz61_3:=blk_frozen BK101.out 3
                     have hfz61_4:=blk_frozen BK101.out 4
                     have hfz61_5:=blk_frozen BK101.out 5
                     have hfz61_6:=blk_frozen BK101.out 6
                     have hfz61_7:=blk_frozen BK101.out 7
                     go_wp2
                     go_ret
                     exact ⟨by rfl,HB.out⟩
end
noncomputable section
def cmp_Or_int.l0:Nat → Int → List Int → Int → Int → Option (Int)
 | 0,_,_,_,_=>none
 | k + 1,x3,x6,x7,x8=>if x8 < x7 then (if 0 ≤ x8 then (if x8 < (x6.length:Int) then (if (rd x6 x8) = x3 then (cmp_Or_int.l0 k x3 x6 x7 (wrap64 (x8 + 1))) else (some (rd x6 x8))) else (none)) else (none)) else (some x3)
def cmp_Or_int.f (k:Nat) (l0:List Int):Option (Int):=cmp_Or_int.l0 k 0 l0 (l0.length:Int) 0
theorem cmp_Or_int.mono_l:∀ k,(∀ y0 y1 y2 y3,LeO (cmp_Or_int.l0 k y0 y1 y2 y3) (cmp_Or_int.l0 (k + 1) y0 y1 y2 y3))
 | 0=>fun _ _ _ _ r h=>by simp [cmp_Or_int.l0] at h
 | k + 1=>by
  have ih0:=cmp_Or_int.mono_l k
  ·intro y0 y1 y2 y3
   unfold cmp_Or_int.l0
   repeat' first | (with_reducible exact ih0 _ _ _ _) | (with_reducible exact LeO.refl _) | (with_reducible refine LeO.ite ?_ ?_)
theorem cmp_Or_int.mono:∀ a0 k,LeO (cmp_Or_int.f k a0) (cmp_Or_int.f (k + 1) a0):=by
 intro a0 k
 have ih0:=cmp_Or_int.mono_l k
 unfold cmp_Or_int.f
 repeat' (with_reducible exact ih0 _ _ _ _)
set_option maxHeartbeats 8000000 in
set_option maxRecDepth 100000 in
theorem cmp_Or_int.calls (k:Nat) (A0:Option Addr) (c0:Nat) (l0:List Int) (r:Int) (w:World) (hr0:Kd.C (Kd.int .i64) w A0 l0.length l0) (hc0:l0.length ≤ c0) (h:cmp_Or_int.f k l0 = some r) :
 Calls Try.prog 111 #[.slice A0 l0.length c0] w fun e w'=>e = .returned (.int .i64 r) ∧ Drawn0 w w':=by
 have HR0:=Aside0.mk hr0
 have HC0:=Aside0.mk hc0
 clear hr0 hc0
 have H:(cmp_Or_int.l0 k 0 l0 (l0.length:Int) 0) = some r:=h
 clear h
 have H':=Aside0.mk H
 clear H
 go_enter Try.func111,Try.ntmps111
 go_wp2
 go_loopg [8] k (fun kq v8 w'=>∃ (x8_1:Int),v8 = .int .i64 x8_1 ∧ Aside0 (cmp_Or_int.l0 kq 0 l0 (l0.length:Int) x8_1 = some r) ∧ Aside0 (kq ≤ k) ∧ Drawn0 w w')
 case atStart=>exact ⟨(0),(by rfl),H',⟨Nat.le_refl _⟩,by repeat (exact Drawn0.refl _)⟩
 case round =>
  clear H'
  obtain ⟨x8_1,rfl,HA,HK1,⟨m1,rfl⟩⟩:=hrel
  cases gk with
  | zero=>exact absurd HA.out (by simp [cmp_Or_int.l0])
  | succ k1 =>
   have H:=HA.out
   clear HA
   simp only [cmp_Or_int.l0] at H
   by_cases c2:x8_1 < (l0.length:Int)
   ·rw [if_pos c2] at H
    have c2b0:decide (x8_1 < (l0.length:Int)) = true:=decide_eq_true c2
    clear c2
    by_cases c3:0 ≤ x8_1
    ·rw [if_pos c3] at H
     have c3b0:decide (0 ≤ x8_1) = true:=decide_eq_true c3
     clear c3
     by_cases c4:x8_1 < (l0.length:Int)
     ·rw [if_pos c4] at H
      have c4b0:decide (x8_1 < (l0.length:Int)) = true:=decide_eq_true c4
      clear c4
      by_cases c5:(rd l0 x8_1) = 0
      ·rw [if_pos c5] at H
       have c5b0:((rd l0 x8_1) == 0) = true:=beq_iff_eq.mpr c5
       have c5b1:((rd l0 x8_1) != 0) = false:=bne_eq_false_iff_eq.mpr c5
       clear c5
       have H':=Aside0.mk H
       clear H
       have p105:0 ≤ (x8_1:Int):=of_decide_eq_true (by assumption)
       have q105:x8_1 < (l0.length:Int):=of_decide_eq_true (by assumption)
       obtain ⟨ad105,e105,hx105_0⟩:=Kd.at_int HR0.out x8_1 p105 q105
       cases e105
       replace p105:=eq_true p105
       replace q105:=eq_true q105
       go_wp2
       go_roundg k1
       case measure=>have:=HK1.out;omega
       case rel=>exact ⟨(wrap64 (x8_1 + 1)),(by rfl),H',⟨by have:=HK1.out;omega⟩,by repeat (first | exact Drawn0.refl _ | apply Drawn0.step)⟩
      ·rw [if_neg c5] at H
       have c5b0:((rd l0 x8_1) == 0) = false:=beq_eq_false_iff_ne.mpr c5
       have c5b1:((rd l0 x8_1) != 0) = true:=bne_iff_ne.mpr c5
       obtain rfl:=Option.some.inj H
       have p105:0 ≤ (x8_1:Int):=of_decide_eq_true (by assumption)
       have q105:x8_1 < (l0.length:Int):=of_decide_eq_true (by assumption)
       obtain ⟨ad105,e105,hx105_0⟩:=Kd.at_int HR0.out x8_1 p105 q105
       cases e105
       replace p105:=eq_true p105
       replace q105:=eq_true q105
       go_wp2
       go_ret
       exact ⟨by rfl,by repeat (first | exact Drawn0.refl _ | apply Drawn0.step)⟩
     ·rw [if_neg c4] at H
      exact absurd H (by simp)
    ·rw [if_neg c3] at H
     exact absurd H (by simp)
   ·rw [if_neg c2] at H
    have c2b0:decide (x8_1 < (l0.length:Int)) = false:=decide_eq_false c2
    clear c2
    obtain rfl:=Option.some.inj H
    go_wp2
    go_ret
    exact ⟨by rfl,by repeat (first | exact Drawn0.refl _ | apply Drawn0.step)⟩
def cmp_isNaN_int.f (a0:Int):Option (Bool):=some (a0 != a0)
set_option maxHeartbeats 8000000 in
set_option maxRecDepth 100000 in
theorem cmp_isNaN_int.calls (a0:Int) (r:Bool) (w:World) (h:cmp_isNaN_int.f a0 = some r) :
 Calls Try.prog 144 #[.int .i64 a0] w fun e w'=>e = .returned (.bool r) ∧ Drawn0 w w':=by
 have H:(some (a0 != a0)) = some r:=h
 clear h
 obtain rfl:=Option.some.inj H
 go_enter Try.func144,Try.ntmps144
 go_wp2
 go_ret
 exact ⟨by rfl,by repeat (exact Drawn0.refl _)⟩
def cmp_Compare_int.f (a0:Int) (a1:Int):Option (Int):=(cmp_isNaN_int.f a0).bind fun t106=>((cmp_isNaN_int.f a1).bind fun t107=>(if t106 = true then (if t107 = true then (some 0) else (some (-1))) else (if t107 = true then (some 1) else (if a0 < a1 then (some (-1)) else (if a0 > a1 then (some 1) else (some 0))))))
set_option maxHeartbeats 8000000 in
set_option maxRecDepth 100000 in
theorem cmp_Compare_int.calls (a0:Int) (a1:Int) (r:Int) (w:World) (h:cmp_Compare_int.f a0 a1 = some r) :
 Calls Try.prog 113 #[.int .i64 a0,.int .i64 a1] w fun e w'=>e = .returned (.int .i64 r) ∧ Drawn0 w w':=by
 have H:((cmp_isNaN_int.f a0).bind fun t106=>((cmp_isNaN_int.f a1).bind fun t107=>(if t106 = true then (if t107 = true then (some 0) else (some (-1))) else (if t107 = true then (some 1) else (if a0 < a1 then (some (-1)) else (if a0 > a1 then (some 1) else (some 0))))))) = some r:=h
 clear h
 replace H:=Option.bind_eq_some_iff.mp H
 obtain ⟨t106,A30,H⟩:=H
 replace H:((cmp_isNaN_int.f a1).bind fun t107=>(if t106 = true then (if t107 = true then (some 0) else (some (-1))) else (if t107 = true then (some 1) else (if a0 < a1 then (some (-1)) else (if a0 > a1 then (some 1) else (some 0)))))) = some r:=H
 have A3:=Aside0.mk A30
 clear A30
 replace H:=Option.bind_eq_some_iff.mp H
 obtain ⟨t107,A40,H⟩:=H
 replace H:(if t106 = true then (if t107 = true then (some 0) else (some (-1))) else (if t107 = true then (some 1) else (if a0 < a1 then (some (-1)) else (if a0 > a1 then (some 1) else (some 0))))) = some r:=H
 have A4:=Aside0.mk A40
 clear A40
 by_cases c5:t106 = true
 ·subst c5
  have H1:(if t107 = true then (some 0) else (some (-1))) = some r:=by rw [if_pos rfl] at H;exact H
  clear H
  have H:=H1
  clear H1
  by_cases c6:t107 = true
  ·subst c6
   have H1:(some 0) = some r:=by rw [if_pos rfl] at H;exact H
   clear H
   have H:=H1
   clear H1
   obtain rfl:=Option.some.inj H
   go_enter Try.func113,Try.ntmps113
   go_wp2_with (first | ((with_reducible refine gate_callee (f:=144) rfl ?_);refine goesL_ (some 8) rfl rfl Try.func144 (by kernel_rfl) rfl #[.int .i64 a0] rfl (by (try simp only [List.map_toArray,List.map_cons,List.map_nil]);rfl) ?_;(with_reducible refine (cmp_isNaN_int.calls a0 true _ A3.out).mono ?_);rintro e w' ⟨rfl,⟨nd,rfl⟩⟩;refine ⟨_,rfl,?_⟩) | ((with_reducible refine gate_callee (f:=144) rfl ?_);refine goesL_ (some 10) rfl rfl Try.func144 (by kernel_rfl) rfl #[.int .i64 a1] rfl (by (try simp only [List.map_toArray,List.map_cons,List.map_nil]);rfl) ?_;(with_reducible refine (cmp_isNaN_int.calls a1 true _ A4.out).mono ?_);rintro e w' ⟨rfl,⟨nd,rfl⟩⟩;refine ⟨_,rfl,?_⟩))
   go_ret
   exact ⟨by rfl,by repeat (first | exact Drawn0.refl _ | apply Drawn0.step)⟩
  ·replace c6:=Bool.eq_false_iff.mpr c6
   subst c6
   have H1:(some (-1)) = some r:=by rw [if_neg (show ¬ (false = true) by decide)] at H;exact H
   clear H
   have H:=H1
   clear H1
   obtain rfl:=Option.some.inj H
   go_enter Try.func113,Try.ntmps113
   go_wp2_with (first | ((with_reducible refine gate_callee (f:=144) rfl ?_);refine goesL_ (some 8) rfl rfl Try.func144 (by kernel_rfl) rfl #[.int .i64 a0] rfl (by (try simp only [List.map_toArray,List.map_cons,List.map_nil]);rfl) ?_;(with_reducible refine (cmp_isNaN_int.calls a0 true _ A3.out).mono ?_);rintro e w' ⟨rfl,⟨nd,rfl⟩⟩;refine ⟨_,rfl,?_⟩) | ((with_reducible refine gate_callee (f:=144) rfl ?_);refine goesL_ (some 10) rfl rfl Try.func144 (by kernel_rfl) rfl #[.int .i64 a1] rfl (by (try simp only [List.map_toArray,List.map_cons,List.map_nil]);rfl) ?_;(with_reducible refine (cmp_isNaN_int.calls a1 false _ A4.out).mono ?_);rintro e w' ⟨rfl,⟨nd,rfl⟩⟩;refine ⟨_,rfl,?_⟩))
   go_ret
   exact ⟨by rfl,by repeat (first | exact Drawn0.refl _ | apply Drawn0.step)⟩
 ·replace c5:=Bool.eq_false_iff.mpr c5
  subst c5
  have H1:(if t107 = true then (some 1) else (if a0 < a1 then (some (-1)) else (if a0 > a1 then (some 1) else (some 0)))) = some r:=by rw [if_neg (show ¬ (false = true) by decide)] at H;exact H
  clear H
  have H:=H1
  clear H1
  by_cases c7:t107 = true
  ·subst c7
   have H1:(some 1) = some r:=by rw [if_pos rfl] at H;exact H
   clear H
   have H:=H1
   clear H1
   obtain rfl:=Option.some.inj H
   go_enter Try.func113,Try.ntmps113
   go_wp2_with (first | ((with_reducible refine gate_callee (f:=144) rfl ?_);refine goesL_ (some 8) rfl rfl Try.func144 (by kernel_rfl) rfl #[.int .i64 a0] rfl (by (try simp only [List.map_toArray,List.map_cons,List.map_nil]);rfl) ?_;(with_reducible refine (cmp_isNaN_int.calls a0 false _ A3.out).mono ?_);rintro e w' ⟨rfl,⟨nd,rfl⟩⟩;refine ⟨_,rfl,?_⟩) | ((with_reducible refine gate_callee (f:=144) rfl ?_);refine goesL_ (some 10) rfl rfl Try.func144 (by kernel_rfl) rfl #[.int .i64 a1] rfl (by (try simp only [List.map_toArray,List.map_cons,List.map_nil]);rfl) ?_;(with_reducible refine (cmp_isNaN_int.calls a1 true _ A4.out).mono ?_);rintro e w' ⟨rfl,⟨nd,rfl⟩⟩;refine ⟨_,rfl,?_⟩))
   go_ret
   exact ⟨by rfl,by repeat (first | exact Drawn0.refl _ | apply Drawn0.step)⟩
  ·replace c7:=Bool.eq_false_iff.mpr c7
   subst c7
   have H1:(if a0 < a1 then (some (-1)) else (if a0 > a1 then (some 1) else (some 0))) = some r:=by rw [if_neg (show ¬ (false = true) by decide)] at H;exact H
   clear H
   have H:=H1
   clear H1
   by_cases c8:a0 < a1
   ·rw [if_pos c8] at H
    have c8b0:decide (a0 < a1) = true:=decide_eq_true c8
    clear c8
    obtain rfl:=Option.some.inj H
    go_enter Try.func113,Try.ntmps113
    go_wp2_with (first | ((with_reducible refine gate_callee (f:=144) rfl ?_);refine goesL_ (some 8) rfl rfl Try.func144 (by kernel_rfl) rfl #[.int .i64 a0] rfl (by (try simp only [List.map_toArray,List.map_cons,List.map_nil]);rfl) ?_;(with_reducible refine (cmp_isNaN_int.calls a0 false _ A3.out).mono ?_);rintro e w' ⟨rfl,⟨nd,rfl⟩⟩;refine ⟨_,rfl,?_⟩) | ((with_reducible refine gate_callee (f:=144) rfl ?_);refine goesL_ (some 10) rfl rfl Try.func144 (by kernel_rfl) rfl #[.int .i64 a1] rfl (by (try simp only [List.map_toArray,List.map_cons,List.map_nil]);rfl) ?_;(with_reducible refine (cmp_isNaN_int.calls a1 false _ A4.out).mono ?_);rintro e w' ⟨rfl,⟨nd,rfl⟩⟩;refine ⟨_,rfl,?_⟩))
    go_ret
    exact ⟨by rfl,by repeat (first | exact Drawn0.refl _ | apply Drawn0.step)⟩
   ·rw [if_neg c8] at H
    have c8b0:decide (a0 < a1) = false:=decide_eq_false c8
    clear c8
    by_cases c9:a0 > a1
    ·rw [if_pos c9] at H
     have c9b0:decide (a1 < a0) = true:=decide_eq_true c9
     clear c9
     obtain rfl:=Option.some.inj H
     go_enter Try.func113,Try.ntmps113
     go_wp2_with (first | ((with_reducible refine gate_callee (f:=144) rfl ?_);refine goesL_ (some 8) rfl rfl Try.func144 (by kernel_rfl) rfl #[.int .i64 a0] rfl (by (try simp only [List.map_toArray,List.map_cons,List.map_nil]);rfl) ?_;(with_reducible refine (cmp_isNaN_int.calls a0 false _ A3.out).mono ?_);rintro e w' ⟨rfl,⟨nd,rfl⟩⟩;refine ⟨_,rfl,?_⟩) | ((with_reducible refine gate_callee (f:=144) rfl ?_);refine goesL_ (some 10) rfl rfl Try.func144 (by kernel_rfl) rfl #[.int .i64 a1] rfl (by (try simp only [List.map_toArray,List.map_cons,List.map_nil]);rfl) ?_;(with_reducible refine (cmp_isNaN_int.calls a1 false _ A4.out).mono ?_);rintro e w' ⟨rfl,⟨nd,rfl⟩⟩;refine ⟨_,rfl,?_⟩))
     go_ret
     exact ⟨by rfl,by repeat (first | exact Drawn0.refl _ | apply Drawn0.step)⟩
    ·rw [if_neg c9] at H
     have c9b0:decide (a1 < a0) = false:=decide_eq_false c9
     clear c9
     obtain rfl:=Option.some.inj H
     go_enter Try.func113,Try.ntmps113
     go_wp2_with (first | ((with_reducible refine gate_callee (f:=144) rfl ?_);refine goesL_ (some 8) rfl rfl Try.func144 (by kernel_rfl) rfl #[.int .i64 a0] rfl (by (try simp only [List.map_toArray,List.map_cons,List.map_nil]);rfl) ?_;(with_reducible refine (cmp_isNaN_int.calls a0 false _ A3.out).mono ?_);rintro e w' ⟨rfl,⟨nd,rfl⟩⟩;refine ⟨_,rfl,?_⟩) | ((with_reducible refine gate_callee (f:=144) rfl ?_);refine goesL_ (some 10) rfl rfl Try.func144 (by kernel_rfl) rfl #[.int .i64 a1] rfl (by (try simp only [List.map_toArray,List.map_cons,List.map_nil]);rfl) ?_;(with_reducible refine (cmp_isNaN_int.calls a1 false _ A4.out).mono ?_);rintro e w' ⟨rfl,⟨nd,rfl⟩⟩;refine ⟨_,rfl,?_⟩))
     go_ret
     exact ⟨by rfl,by repeat (first | exact Drawn0.refl _ | apply Drawn0.step)⟩
def replica_stamps.f (k:Nat) (a0_0:Int) (a0_1:Int) (a0_2:Int) (a0_3:Int) (a0_4:Int) (a0_5:ByteArray) (a0_6:ByteArray) (a0_7:ByteArray) (a1_0:Int) (a1_1:Int) (a1_2:Int) (a1_3:Int) (a1_4:Int) (a1_5:ByteArray) (a1_6:ByteArray) (a1_7:ByteArray):Option (Int):=(cmp_Compare_int.f a0_0 a1_0).bind fun t110=>((cmp_Compare_int.f a0_1 a1_1).bind fun t111=>((cmp_Or_int.f k (([t110,t111]:List Int))).bind fun t115=>(some t115)))
theorem replica_stamps.mono:∀ a0 a1 a2 a3 a4 a5 a6 a7 a8 a9 a10 a11 a12 a13 a14 a15 k,LeO (replica_stamps.f k a0 a1 a2 a3 a4 a5 a6 a7 a8 a9 a10 a11 a12 a13 a14 a15) (replica_stamps.f (k + 1) a0 a1 a2 a3 a4 a5 a6 a7 a8 a9 a10 a11 a12 a13 a14 a15):=by
 intro a0 a1 a2 a3 a4 a5 a6 a7 a8 a9 a10 a11 a12 a13 a14 a15 k
 unfold replica_stamps.f
 repeat' first | (with_reducible exact cmp_Or_int.mono _ _) | (with_reducible exact LeO.refl _) | (with_reducible refine LeO.bind ?_ (fun _=>?_))
def replica_stamps.T1:Bool × List (List Nat × List Nat):=(true,[([],[]),([0],[0]),([],[]),([2],[2]),([1,3],[1,3]),([],[]),([5],[5]),([],[]),([7],[7]),([6,8,4],[6,8]),([4,9],[4,9]),([10,9],[10]),([11,11,0,1,2,3,4,5,6,7,8,9,10,11],[11])])
def replica_stamps.B1:List Nat:=[0,1,0,4,15,0,32,0,128,511,1023,2047,4095]
theorem replica_stamps.tab1:rtab .any (opsOf Try.f107 1) = replica_stamps.T1:=by kernel_rfl
theorem replica_stamps.bits1:waitsOk replica_stamps.T1.2 replica_stamps.B1 = true:=by kernel_rfl
set_option maxHeartbeats 8000000 in
set_option maxRecDepth 100000 in
theorem replica_stamps.calls (k:Nat) (a0_0:Int) (a0_1:Int) (a0_2:Int) (a0_3:Int) (a0_4:Int) (a0_5:ByteArray) (a0_6:ByteArray) (a0_7:ByteArray) (a1_0:Int) (a1_1:Int) (a1_2:Int) (a1_3:Int) (a1_4:Int) (a1_5:ByteArray) (a1_6:ByteArray) (a1_7:ByteArray) (r:Int) (w:World) (h:replica_stamps.f k a0_0 a0_1 a0_2 a0_3 a0_4 a0_5 a0_6 a0_7 a1_0 a1_1 a1_2 a1_3 a1_4 a1_5 a1_6 a1_7 = some r) :
 Calls Try.prog 107 #[.agg #[.int .i64 a0_0,.int .i64 a0_1,.int .i64 a0_2,.int .i64 a0_3,.int .i64 a0_4,.string a0_5,.string a0_6,.string a0_7],.agg #[.int .i64 a1_0,.int .i64 a1_1,.int .i64 a1_2,.int .i64 a1_3,.int .i64 a1_4,.string a1_5,.string a1_6,.string a1_7]] w fun e w'=>e = .returned (.int .i64 r) ∧ Below w.heap.size w w':=by
 have hu128:=Try.underlying128
 have HB:=Aside0.mk (Below.refl w.heap.size w)
 have H:((cmp_Compare_int.f a0_0 a1_0).bind fun t110=>((cmp_Compare_int.f a0_1 a1_1).bind fun t111=>((cmp_Or_int.f k (([t110,t111]:List Int))).bind fun t115=>(some t115)))) = some r:=h
 clear h
 replace H:=Option.bind_eq_some_iff.mp H
 obtain ⟨t110,A30,H⟩:=H
 replace H:((cmp_Compare_int.f a0_1 a1_1).bind fun t111=>((cmp_Or_int.f k (([t110,t111]:List Int))).bind fun t115=>(some t115))) = some r:=H
 have A3:=Aside0.mk A30
 clear A30
 replace H:=Option.bind_eq_some_iff.mp H
 obtain ⟨t111,A40,H⟩:=H
 replace H:((cmp_Or_int.f k (([t110,t111]:List Int))).bind fun t115=>(some t115)) = some r:=H
 have A4:=Aside0.mk A40
 clear A40
 obtain ⟨y112,hy112⟩:∃ y_:List Int,y_ = (([t110,t111]:List Int)):=⟨_,rfl⟩
 replace H:((cmp_Or_int.f k y112).bind fun t115=>(some t115)) = some r:=by (rw [hy112];with_reducible exact H)
 have Ny112:=Aside0.mk hy112
 clear hy112
 replace H:=Option.bind_eq_some_iff.mp H
 obtain ⟨t115,A50,H⟩:=H
 replace H:(some t115) = some r:=H
 have A5:=Aside0.mk A50
 clear A50
 obtain rfl:=Option.some.inj H
 go_enter Try.func107,Try.ntmps107
 try go_wp2_with (first | ((with_reducible refine gate_dst (N:=2) rfl ?_);refine box_event ?hg (N:=2) ?hd (cs:=#[.int .i64 a0_0,.int .i64 a0_1,.int .i64 a0_2,.int .i64 a0_3,.int .i64 a0_4,.string a0_5,.string a0_6,.string a0_7]) (t:=128) ?hr ?_;(case hd=>rfl);(case hg=>rfl);(case hr=>(go_simp;done));intro gb108 hg w6 hbox hb;have n0_:=Aside0.mk (below_step (by with_reducible exact HB.out) hb);have n1_:=Aside0.mk hbox;have n2_:=Aside0.mk ((by rw [hg];exact (below_size (by with_reducible exact HB.out)):w.heap.size ≤ gb108));have n3_:=Aside0.mk ((by rw [hg];exact (below_size (by with_reducible exact HB.out)):w.heap.size ≤ gb108));clear HB;have HB:=n0_;have BK108:=n1_;have GW108:=n2_;have GE108:=n3_;clear n0_ n1_ n2_ n3_;clear hb hbox hg) | ((with_reducible refine gate_dst (N:=3) rfl ?_);refine box_event ?hg (N:=3) ?hd (cs:=#[.int .i64 a1_0,.int .i64 a1_1,.int .i64 a1_2,.int .i64 a1_3,.int .i64 a1_4,.string a1_5,.string a1_6,.string a1_7]) (t:=128) ?hr ?_;(case hd=>rfl);(case hg=>rfl);(case hr=>(go_simp;done));intro gb109 hg w7 hbox hb;have n0_:=Aside0.mk (blk_below BK108.out hb);have n1_:=Aside0.mk (below_step HB.out hb);have n2_:=Aside0.mk hbox;have n3_:=Aside0.mk ((by rw [hg];exact (below_size HB.out):w.heap.size ≤ gb109));have n4_:=Aside0.mk ((by rw [hg];exact (below_size HB.out):w.heap.size ≤ gb109));have n5_:=Aside0.mk ((by rw [hg];exact Nat.ne_of_lt (blk_lt BK108.out):gb108 ≠ gb109));have n6_:=Aside0.mk ((by rw [hg];exact Nat.ne_of_gt (blk_lt BK108.out):gb109 ≠ gb108));clear BK108;clear HB;have BK108:=n0_;have HB:=n1_;have BK109:=n2_;have GW109:=n3_;have GE109:=n4_;have NB108_109:=n5_;have NB109_108:=n6_;clear n0_ n1_ n2_ n3_ n4_ n5_ n6_;clear hb hbox hg))
 have n0_:=Aside0.mk (blk_drew BK108.out)
 have n1_:=Aside0.mk (blk_drew BK109.out)
 have n2_:=Aside0.mk (below_drew1 HB.out)
 clear BK108
 clear BK109
 clear HB
 have BK108:=n0_
 have BK109:=n1_
 have HB:=n2_
 clear n0_ n1_ n2_
 refine start_ (n:=13) (S:=fun w'=>w'.cell? ⟨gb108,0,none⟩ = some (.int .i64 a0_0) ∧ w'.cell? ⟨gb108,1,none⟩ = some (.int .i64 a0_1) ∧ w'.cell? ⟨gb108,2,none⟩ = some (.int .i64 a0_2) ∧ w'.cell? ⟨gb108,3,none⟩ = some (.int .i64 a0_3) ∧ w'.cell? ⟨gb108,4,none⟩ = some (.int .i64 a0_4) ∧ w'.cell? ⟨gb108,5,none⟩ = some (.string a0_5) ∧ w'.cell? ⟨gb108,6,none⟩ = some (.string a0_6) ∧ w'.cell? ⟨gb108,7,none⟩ = some (.string a0_7) ∧ w'.cell? ⟨gb109,0,none⟩ = some (.int .i64 a1_0) ∧ w'.cell? ⟨gb109,1,none⟩ = some (.int .i64 a1_1) ∧ w'.cell? ⟨gb109,2,none⟩ = some (.int .i64 a1_2) ∧ w'.cell? ⟨gb109,3,none⟩ = some (.int .i64 a1_3) ∧ w'.cell? ⟨gb109,4,none⟩ = some (.int .i64 a1_4) ∧ w'.cell? ⟨gb109,5,none⟩ = some (.string a1_5) ∧ w'.cell? ⟨gb109,6,none⟩ = some (.string a1_6) ∧ w'.cell? ⟨gb109,7,none⟩ = some (.string a1_7)) (ds:=[]) #[false,false,false,false,false,false,false,false,false,false,false,false,false] (by kernel_rfl) rfl rfl ⟨(blk_cell BK108.out 0).trans rfl,(blk_cell BK108.out 1).trans rfl,(blk_cell BK108.out 2).trans rfl,(blk_cell BK108.out 3).trans rfl,(blk_cell BK108.out 4).trans rfl,(blk_cell BK108.out 5).trans rfl,(blk_cell BK108.out 6).trans rfl,(blk_cell BK108.out 7).trans rfl,(blk_cell BK109.out 0).trans rfl,(blk_cell BK109.out 1).trans rfl,(blk_cell BK109.out 2).trans rfl,(blk_cell BK109.out 3).trans rfl,(blk_cell BK109.out 4).trans rfl,(blk_cell BK109.out 5).trans rfl,(blk_cell BK109.out 6).trans rfl,(blk_cell BK109.out 7).trans rfl⟩ (fun hHeld=>?_);refine with_tabW replica_stamps.tab1 replica_stamps.bits1 (fun HT_ HW_=>?_)
 generalize w7.drew = w8 at BK108 BK109 HB hHeld ⊢
 refine pure_ (i:=0) (N:=some 5) (v:=?_) (a':=?_) (bm 1 13) rfl rfl (any_of HT_.out (by kernel_rfl)) (fun _ _ _ h=>h) (Or.inl ⟨by rfl,?_⟩) ?_ ?_
 rotate_left
 ·intro w'
  go_simp
  with_reducible rfl
 rotate_left
 ·simp only [Act.put,sA,sB,sC,i64_w,i32_w]
  rfl
 refine pure_ (i:=2) (N:=some 7) (v:=?_) (a':=?_) (bm 5 13) rfl rfl (any_of HT_.out (by kernel_rfl)) (fun _ _ _ h=>h) (Or.inl ⟨by rfl,?_⟩) ?_ ?_
 rotate_left
 ·intro w'
  go_simp
  with_reducible rfl
 rotate_left
 ·simp only [Act.put,sA,sB,sC,i64_w,i32_w]
  rfl
 refine pure_ (i:=5) (N:=some 10) (v:=?_) (a':=?_) (bm 37 13) rfl rfl (any_of HT_.out (by kernel_rfl)) (fun _ _ _ h=>h) (Or.inl ⟨by rfl,?_⟩) ?_ ?_
 rotate_left
 ·intro w'
  go_simp
  with_reducible rfl
 rotate_left
 ·simp only [Act.put,sA,sB,sC,i64_w,i32_w]
  rfl
 refine pure_ (i:=7) (N:=some 12) (v:=?_) (a':=?_) (bm 165 13) rfl rfl (any_of HT_.out (by kernel_rfl)) (fun _ _ _ h=>h) (Or.inl ⟨by rfl,?_⟩) ?_ ?_
 rotate_left
 ·intro w'
  go_simp
  with_reducible rfl
 rotate_left
 ·simp only [Act.put,sA,sB,sC,i64_w,i32_w]
  rfl
 refine take_ (i:=1) (N:=some 6) (v:=?_) (a':=?_) (bm 167 13) rfl rfl (take_ofW HT_.out HW_.out (by kernel_rfl)) (fun _ _ _ h=>h) (Or.inl ⟨by rfl,?_⟩) hHeld ?_ ?_
 rotate_left
 ·rintro w' ⟨s0,s1,s2,s3,s4,s5,s6,s7,s8,s9,s10,s11,s12,s13,s14,s15⟩
  go_simp
  with_reducible rfl
 rotate_left
 ·simp only [Act.put,sA,sB,sC,i64_w,i32_w]
  rfl
 refine take_ (i:=3) (N:=some 8) (v:=?_) (a':=?_) (bm 175 13) rfl rfl (take_ofW HT_.out HW_.out (by kernel_rfl)) (fun _ _ _ h=>h) (Or.inl ⟨by rfl,?_⟩) hHeld ?_ ?_
 rotate_left
 ·rintro w' ⟨s0,s1,s2,s3,s4,s5,s6,s7,s8,s9,s10,s11,s12,s13,s14,s15⟩
  go_simp
  with_reducible rfl
 rotate_left
 ·simp only [Act.put,sA,sB,sC,i64_w,i32_w]
  rfl
 refine take_ (i:=6) (N:=some 11) (v:=?_) (a':=?_) (bm 239 13) rfl rfl (take_ofW HT_.out HW_.out (by kernel_rfl)) (fun _ _ _ h=>h) (Or.inl ⟨by rfl,?_⟩) hHeld ?_ ?_
 rotate_left
 ·rintro w' ⟨s0,s1,s2,s3,s4,s5,s6,s7,s8,s9,s10,s11,s12,s13,s14,s15⟩
  go_simp
  with_reducible rfl
 rotate_left
 ·simp only [Act.put,sA,sB,sC,i64_w,i32_w]
  rfl
 refine take_ (i:=8) (N:=some 13) (v:=?_) (a':=?_) (bm 495 13) rfl rfl (take_ofW HT_.out HW_.out (by kernel_rfl)) (fun _ _ _ h=>h) (Or.inl ⟨by rfl,?_⟩) hHeld ?_ ?_
 rotate_left
 ·rintro w' ⟨s0,s1,s2,s3,s4,s5,s6,s7,s8,s9,s10,s11,s12,s13,s14,s15⟩
  go_simp
  with_reducible rfl
 rotate_left
 ·simp only [Act.put,sA,sB,sC,i64_w,i32_w]
  rfl
 refine one_ (i:=4) (N:=some 9) (bm 511 13) rfl rfl (one_of HT_.out (by kernel_rfl)) (by decide) (fun K hK=>?_)
 refine goes_ Try.func113 (by kernel_rfl) rfl #[.int .i64 a0_0,.int .i64 a1_0] (by rfl) rfl rfl (by (try simp only [List.map_toArray,List.map_cons,List.map_nil]);rfl) ?_
 with_reducible refine (cmp_Compare_int.calls a0_0 a1_0 t110 _ A3.out).mono ?_
 rintro e w' ⟨rfl,⟨nd,rfl⟩⟩
 refine ⟨_,rfl,?_⟩
 refine hK.out _ _ ⟨(blk_cell BK108.out 0).trans rfl,(blk_cell BK108.out 1).trans rfl,(blk_cell BK108.out 2).trans rfl,(blk_cell BK108.out 3).trans rfl,(blk_cell BK108.out 4).trans rfl,(blk_cell BK108.out 5).trans rfl,(blk_cell BK108.out 6).trans rfl,(blk_cell BK108.out 7).trans rfl,(blk_cell BK109.out 0).trans rfl,(blk_cell BK109.out 1).trans rfl,(blk_cell BK109.out 2).trans rfl,(blk_cell BK109.out 3).trans rfl,(blk_cell BK109.out 4).trans rfl,(blk_cell BK109.out 5).trans rfl,(blk_cell BK109.out 6).trans rfl,(blk_cell BK109.out 7).trans rfl⟩ (fun hHeld=>?_)
 clear hK K
 refine norm_ (a':=?_) ?_ ?_
 rotate_left
 ·show Act.put _ (some 9) _ = _
  simp only [Act.put,sA,sB,sC,i64_w,i32_w]
  rfl
 refine one_ (i:=9) (N:=some 14) (bm 1023 13) rfl rfl (one_of HT_.out (by kernel_rfl)) (by decide) (fun K hK=>?_)
 refine goes_ Try.func113 (by kernel_rfl) rfl #[.int .i64 a0_1,.int .i64 a1_1] (by rfl) rfl rfl (by (try simp only [List.map_toArray,List.map_cons,List.map_nil]);rfl) ?_
 with_reducible refine (cmp_Compare_int.calls a0_1 a1_1 t111 _ A4.out).mono ?_
 rintro e w' ⟨rfl,⟨nd,rfl⟩⟩
 refine ⟨_,rfl,?_⟩
 refine hK.out _ _ ⟨(blk_cell BK108.out 0).trans rfl,(blk_cell BK108.out 1).trans rfl,(blk_cell BK108.out 2).trans rfl,(blk_cell BK108.out 3).trans rfl,(blk_cell BK108.out 4).trans rfl,(blk_cell BK108.out 5).trans rfl,(blk_cell BK108.out 6).trans rfl,(blk_cell BK108.out 7).trans rfl,(blk_cell BK109.out 0).trans rfl,(blk_cell BK109.out 1).trans rfl,(blk_cell BK109.out 2).trans rfl,(blk_cell BK109.out 3).trans rfl,(blk_cell BK109.out 4).trans rfl,(blk_cell BK109.out 5).trans rfl,(blk_cell BK109.out 6).trans rfl,(blk_cell BK109.out 7).trans rfl⟩ (fun hHeld=>?_)
 clear hK K
 refine norm_ (a':=?_) ?_ ?_
 rotate_left
 ·show Act.put _ (some 14) _ = _
  simp only [Act.put,sA,sB,sC,i64_w,i32_w]
  rfl
 refine one_ (i:=10) (N:=some 15) (bm 2047 13) rfl rfl (one_of HT_.out (by kernel_rfl)) (by decide) (fun K hK=>?_)
 refine Kd.R_lit_step (Kd.int .i64) _ 3 ?hg (N:=15) ?hd (xs:=([t110,t111]:List Int)) (inner:=[.int .i64 t110,.int .i64 t111]) (ok:=fun _=>True) (okp:=fun _=>True) ?hr ?hp (fun _ hk=>hk) trivial (Below.refl _ _) (Nat.le_refl _) (by simp) ?_;(case hd=>rfl);(case hg=>rfl);(case hr=>(go_simp;done));(case hp=>exact (Reps.one (show Kd.M (Kd.int .i64) _ _ _ t110 [.int .i64 t110] from rfl) (Reps.one (show Kd.M (Kd.int .i64) _ _ _ t111 [.int .i64 t111] from rfl) (Reps.none _ _))))
 intro v113 w9 ho10 hb hg_ hnew_
 clear hg_ hnew_
 (rw [← Ny112.out] at ho10)
 have n0_:=Aside0.mk (Kd.R_lower ho10 (below_size (by repeat ((with_reducible first | exact HB.out | apply pw_below_drewN)))))
 have n1_:=Aside0.mk (blk_below (g:=gb108) (o:=.cells #[.int .i64 a0_0,.int .i64 a0_1,.int .i64 a0_2,.int .i64 a0_3,.int .i64 a0_4,.string a0_5,.string a0_6,.string a0_7] 128 (0,0)) (by (with_reducible repeat (refine blk_drewN ?_ _));exact BK108.out) hb)
 have n2_:=Aside0.mk (blk_below (g:=gb109) (o:=.cells #[.int .i64 a1_0,.int .i64 a1_1,.int .i64 a1_2,.int .i64 a1_3,.int .i64 a1_4,.string a1_5,.string a1_6,.string a1_7] 128 (0,0)) (by (with_reducible repeat (refine blk_drewN ?_ _));exact BK109.out) hb)
 have n3_:=Aside0.mk (below_step (by repeat ((with_reducible first | exact HB.out | apply pw_below_drewN))) hb)
 clear BK108
 clear BK109
 clear HB
 have HO114:=n0_
 have BK108:=n1_
 have BK109:=n2_
 have HB:=n3_
 clear n0_ n1_ n2_ n3_
 clear hb ho10
 obtain ⟨Ao11,co11,eo11⟩:=Kd.R_slice HO114.out
 (subst eo11)
 refine hK.out _ _ ⟨(blk_cell BK108.out 0).trans rfl,(blk_cell BK108.out 1).trans rfl,(blk_cell BK108.out 2).trans rfl,(blk_cell BK108.out 3).trans rfl,(blk_cell BK108.out 4).trans rfl,(blk_cell BK108.out 5).trans rfl,(blk_cell BK108.out 6).trans rfl,(blk_cell BK108.out 7).trans rfl,(blk_cell BK109.out 0).trans rfl,(blk_cell BK109.out 1).trans rfl,(blk_cell BK109.out 2).trans rfl,(blk_cell BK109.out 3).trans rfl,(blk_cell BK109.out 4).trans rfl,(blk_cell BK109.out 5).trans rfl,(blk_cell BK109.out 6).trans rfl,(blk_cell BK109.out 7).trans rfl⟩ (fun hHeld=>?_)
 clear hK K
 refine norm_ (a':=?_) ?_ ?_
 rotate_left
 ·show Act.put _ (some 15) _ = _
  simp only [Act.put,sA,sB,sC,i64_w,i32_w]
  rfl
 refine one_ (i:=11) (N:=some 16) (bm 4095 13) rfl rfl (one_of HT_.out (by kernel_rfl)) (by decide) (fun K hK=>?_)
 refine goes_ Try.func111 (by kernel_rfl) rfl #[.slice Ao11 y112.length co11] (by rfl) rfl rfl (by (try simp only [List.map_toArray,List.map_cons,List.map_nil]);rfl) ?_
 with_reducible refine (cmp_Or_int.calls k _ _ y112 t115 _ ?side1 ?side2 A5.out).mono ?_
 (case side1=>repeat (exact (Kd.R_reads' HO114.out).2.2))
 (case side2=>exact (Kd.R_reads' HO114.out).2.1)
 rintro e w' ⟨rfl,⟨nd,rfl⟩⟩
 refine ⟨_,rfl,?_⟩
 refine hK.out _ _ ⟨(blk_cell BK108.out 0).trans rfl,(blk_cell BK108.out 1).trans rfl,(blk_cell BK108.out 2).trans rfl,(blk_cell BK108.out 3).trans rfl,(blk_cell BK108.out 4).trans rfl,(blk_cell BK108.out 5).trans rfl,(blk_cell BK108.out 6).trans rfl,(blk_cell BK108.out 7).trans rfl,(blk_cell BK109.out 0).trans rfl,(blk_cell BK109.out 1).trans rfl,(blk_cell BK109.out 2).trans rfl,(blk_cell BK109.out 3).trans rfl,(blk_cell BK109.out 4).trans rfl,(blk_cell BK109.out 5).trans rfl,(blk_cell BK109.out 6).trans rfl,(blk_cell BK109.out 7).trans rfl⟩ (fun hHeld=>?_)
 clear hK K
 refine norm_ (a':=?_) ?_ ?_
 rotate_left
 ·show Act.put _ (some 16) _ = _
  simp only [Act.put,sA,sB,sC,i64_w,i32_w]
  rfl
 refine pure_ (i:=12) (N:=some 4) (v:=?_) (a':=?_) (bm 8191 13) rfl rfl (any_of HT_.out (by kernel_rfl)) (fun _ _ _ h=>h) (Or.inl ⟨by rfl,?_⟩) ?_ ?_
 rotate_left
 ·intro w'
  go_simp
  with_reducible rfl
 rotate_left
 ·simp only [Act.put,sA,sB,sC,i64_w,i32_w]
  rfl
 refine done_ (done_of HT_.out (by kernel_rfl)) ?_
 try go_wp2
 go_ret
 exact ⟨by rfl,by repeat ((with_reducible first | exact HB.out | apply pw_below_drewN))⟩
def replica_Check.l0:Nat → List (S128) → List (S128) → Int → Int → Option (Int)
 | 0,_,_,_,_=>none
 | k + 1,x0,x6,x7,x8=>if x8 < x7 then (if 0 ≤ x8 then (if x8 < (x6.length:Int) then ((replica_op.f k ((rd_T128 x6 x8).f0) ((rd_T128 x6 x8).f1) ((rd_T128 x6 x8).f2) ((rd_T128 x6 x8).f3) ((rd_T128 x6 x8).f4) ((rd_T128 x6 x8).f5) ((rd_T128 x6 x8).f6) ((rd_T128 x6 x8).f7)).bind fun t118=>(if t118 = 0 then (if x8 > 0 then (if 0 ≤ (wrap64 (x8 - 1)) then (if (wrap64 (x8 - 1)) < (x0.length:Int) then ((replica_stamps.f k ((rd_T128 x0 (wrap64 (x8 - 1))).f0) ((rd_T128 x0 (wrap64 (x8 - 1))).f1) ((rd_T128 x0 (wrap64 (x8 - 1))).f2) ((rd_T128 x0 (wrap64 (x8 - 1))).f3) ((rd_T128 x0 (wrap64 (x8 - 1))).f4) ((rd_T128 x0 (wrap64 (x8 - 1))).f5) ((rd_T128 x0 (wrap64 (x8 - 1))).f6) ((rd_T128 x0 (wrap64 (x8 - 1))).f7) ((rd_T128 x6 x8).f0) ((rd_T128 x6 x8).f1) ((rd_T128 x6 x8).f2) ((rd_T128 x6 x8).f3) ((rd_T128 x6 x8).f4) ((rd_T128 x6 x8).f5) ((rd_T128 x6 x8).f6) ((rd_T128 x6 x8).f7)).bind fun t120=>(if t120 ≥ 0 then (some 5) else (replica_Check.l0 k x0 x6 x7 (wrap64 (x8 + 1))))) else (none)) else (none)) else (replica_Check.l0 k x0 x6 x7 (wrap64 (x8 + 1)))) else (some t118))) else (none)) else (none)) else (some 0)
def replica_Check.f (k:Nat) (l0:List (S128)):Option (Int):=replica_Check.l0 k l0 l0 (l0.length:Int) 0
def replica_Check.T7:Bool × List (List Nat × List Nat):=(true,[([],[]),([0],[0]),([1],[1]),([2],[2]),([2],[2]),([4,2],[2,4]),([3,5,2],[2,3,5]),([6,2],[2,6]),([2],[2]),([7,8,2,2],[2,7,8]),([9,2],[2,9]),([2,10],[2,10])])
def replica_Check.B7:List Nat:=[0,1,3,7,7,23,63,127,7,511,1023,2047]
theorem replica_Check.tab7:rtab .any (opsOf Try.f72 7) = replica_Check.T7:=by kernel_rfl
theorem replica_Check.bits7:waitsOk replica_Check.T7.2 replica_Check.B7 = true:=by kernel_rfl
set_option maxHeartbeats 8000000 in
set_option maxRecDepth 100000 in
theorem replica_Check.calls (k:Nat) (A0:Option Addr) (c0:Nat) (l0:List (S128)) (r:Int) (w:World) (hr0:Kd.C k128 w A0 l0.length l0) (hc0:l0.length ≤ c0) (h:replica_Check.f k l0 = some r) :
 Calls Try.prog 72 #[.slice A0 l0.length c0] w fun e w'=>e = .returned (.int .i64 r) ∧ Below w.heap.size w w':=by
 have hu128:=Try.underlying128
 have HR0:=Aside0.mk hr0
 have HC0:=Aside0.mk hc0
 clear hr0 hc0
 have HB:=Aside0.mk (Below.refl w.heap.size w)
 have H:(replica_Check.l0 k l0 l0 (l0.length:Int) 0) = some r:=h
 clear h
 have H':=Aside0.mk H
 clear H
 go_enter Try.func72,Try.ntmps72
 go_wp2
 go_loopg [8] k (fun kq v8 w'=>∃ (x8_1:Int),v8 = .int .i64 x8_1 ∧ Aside0 (replica_Check.l0 kq l0 l0 (l0.length:Int) x8_1 = some r) ∧ Aside0 (kq ≤ k) ∧ Aside0 (Below w.heap.size w w'))
 case atStart=>exact ⟨(0),(by rfl),H',⟨Nat.le_refl _⟩,⟨HB.out⟩⟩
 case round =>
  clear H'
  obtain ⟨x8_1,rfl,HA,HK1,HB⟩:=hrel
  cases gk with
  | zero=>exact absurd HA.out (by simp [replica_Check.l0])
  | succ k1 =>
   have H:=HA.out
   clear HA
   simp only [replica_Check.l0] at H
   by_cases c2:x8_1 < (l0.length:Int)
   ·rw [if_pos c2] at H
    have c2b0:decide (x8_1 < (l0.length:Int)) = true:=decide_eq_true c2
    clear c2
    by_cases c3:0 ≤ x8_1
    ·rw [if_pos c3] at H
     have c3b0:decide (0 ≤ x8_1) = true:=decide_eq_true c3
     clear c3
     by_cases c4:x8_1 < (l0.length:Int)
     ·rw [if_pos c4] at H
      have c4b0:decide (x8_1 < (l0.length:Int)) = true:=decide_eq_true c4
      clear c4
      replace H:=Option.bind_eq_some_iff.mp H
      obtain ⟨t118,A50,H⟩:=H
      replace H:(if t118 = 0 then (if x8_1 > 0 then (if 0 ≤ (wrap64 (x8_1 - 1)) then (if (wrap64 (x8_1 - 1)) < (l0.length:Int) then ((replica_stamps.f k1 ((rd_T128 l0 (wrap64 (x8_1 - 1))).f0) ((rd_T128 l0 (wrap64 (x8_1 - 1))).f1) ((rd_T128 l0 (wrap64 (x8_1 - 1))).f2) ((rd_T128 l0 (wrap64 (x8_1 - 1))).f3) ((rd_T128 l0 (wrap64 (x8_1 - 1))).f4) ((rd_T128 l0 (wrap64 (x8_1 - 1))).f5) ((rd_T128 l0 (wrap64 (x8_1 - 1))).f6) ((rd_T128 l0 (wrap64 (x8_1 - 1))).f7) ((rd_T128 l0 x8_1).f0) ((rd_T128 l0 x8_1).f1) ((rd_T128 l0 x8_1).f2) ((rd_T128 l0 x8_1).f3) ((rd_T128 l0 x8_1).f4) ((rd_T128 l0 x8_1).f5) ((rd_T128 l0 x8_1).f6) ((rd_T128 l0 x8_1).f7)).bind fun t120=>(if t120 ≥ 0 then (some 5) else (replica_Check.l0 k1 l0 l0 (l0.length:Int) (wrap64 (x8_1 + 1))))) else (none)) else (none)) else (replica_Check.l0 k1 l0 l0 (l0.length:Int) (wrap64 (x8_1 + 1)))) else (some t118)) = some r:=H
      have A5:=Aside0.mk A50
      clear A50
      by_cases c6:t118 = 0
      ·rw [if_pos c6] at H
       have c6b0:(t118 == 0) = true:=beq_iff_eq.mpr c6
       have c6b1:(t118 != 0) = false:=bne_eq_false_iff_eq.mpr c6
       clear c6
       by_cases c7:x8_1 > 0
       ·rw [if_pos c7] at H
        have c7b0:decide (0 < x8_1) = true:=decide_eq_true c7
        clear c7
        obtain ⟨ji8,hji8⟩:∃ j_:Int,(wrap64 (x8_1 - 1)) = j_:=⟨_,rfl⟩
        replace H:(if 0 ≤ (ji8) then (if (ji8) < (l0.length:Int) then ((replica_stamps.f k1 ((rd_T128 l0 (ji8)).f0) ((rd_T128 l0 (ji8)).f1) ((rd_T128 l0 (ji8)).f2) ((rd_T128 l0 (ji8)).f3) ((rd_T128 l0 (ji8)).f4) ((rd_T128 l0 (ji8)).f5) ((rd_T128 l0 (ji8)).f6) ((rd_T128 l0 (ji8)).f7) ((rd_T128 l0 x8_1).f0) ((rd_T128 l0 x8_1).f1) ((rd_T128 l0 x8_1).f2) ((rd_T128 l0 x8_1).f3) ((rd_T128 l0 x8_1).f4) ((rd_T128 l0 x8_1).f5) ((rd_T128 l0 x8_1).f6) ((rd_T128 l0 x8_1).f7)).bind fun t120=>(if t120 ≥ 0 then (some 5) else (replica_Check.l0 k1 l0 l0 (l0.length:Int) (wrap64 (x8_1 + 1))))) else (none)) else (none)) = some r:=by (rw [hji8] at H;exact H)
        (try rw [hji8] at A5)
        have hji8w:(IntKind.i64.wrap (x8_1 - 1)) = ji8:=(i64_w _).trans hji8
        by_cases c9:0 ≤ (ji8)
        ·rw [if_pos c9] at H
         have c9b0:decide (0 ≤ (ji8)) = true:=decide_eq_true c9
         clear c9
         by_cases c10:(ji8) < (l0.length:Int)
         ·rw [if_pos c10] at H
          have c10b0:decide ((ji8) < (l0.length:Int)) = true:=decide_eq_true c10
          clear c10
          replace H:=Option.bind_eq_some_iff.mp H
          obtain ⟨t120,A110,H⟩:=H
          replace H:(if t120 ≥ 0 then (some 5) else (replica_Check.l0 k1 l0 l0 (l0.length:Int) (wrap64 (x8_1 + 1)))) = some r:=H
          have A11:=Aside0.mk A110
          clear A110
          by_cases c12:t120 ≥ 0
          ·rw [if_pos c12] at H
           have c12b0:decide (0 ≤ t120) = true:=decide_eq_true c12
           clear c12
           obtain rfl:=Option.some.inj H
           have p116:0 ≤ (x8_1:Int):=of_decide_eq_true (by assumption)
           have q116:x8_1 < (l0.length:Int):=of_decide_eq_true (by assumption)
           obtain ⟨ad116,e116,hx116_0,hx116_1,hx116_2,hx116_3,hx116_4,hx116_5,hx116_6,hx116_7⟩:=at_T128 HR0.out x8_1 p116 q116
           cases e116
           replace hx116_0:=(HB.out.cell (World.block_lt_of_cell? w _ hx116_0)).trans hx116_0
           replace hx116_1:=(HB.out.cell (World.block_lt_of_cell? w _ hx116_1)).trans hx116_1
           replace hx116_2:=(HB.out.cell (World.block_lt_of_cell? w _ hx116_2)).trans hx116_2
           replace hx116_3:=(HB.out.cell (World.block_lt_of_cell? w _ hx116_3)).trans hx116_3
           replace hx116_4:=(HB.out.cell (World.block_lt_of_cell? w _ hx116_4)).trans hx116_4
           replace hx116_5:=(HB.out.cell (World.block_lt_of_cell? w _ hx116_5)).trans hx116_5
           replace hx116_6:=(HB.out.cell (World.block_lt_of_cell? w _ hx116_6)).trans hx116_6
           replace hx116_7:=(HB.out.cell (World.block_lt_of_cell? w _ hx116_7)).trans hx116_7
           replace p116:=eq_true p116
           replace q116:=eq_true q116
           try go_wp2_with (first | ((with_reducible refine gate_dst (N:=4) rfl ?_);refine box_event ?hg (N:=4) ?hd (cs:=#[.int .i64 0,.int .i64 0,.int .i64 0,.int .i64 0,.int .i64 0,.string (⟨#[]⟩:ByteArray),.string (⟨#[]⟩:ByteArray),.string (⟨#[]⟩:ByteArray)]) (t:=128) ?hr ?_;(case hd=>rfl);(case hg=>rfl);(case hr=>(go_simp;done));intro gb117 hg w13 hbox hb;have n0_:=Aside0.mk (below_step (by with_reducible exact HB.out) hb);have n1_:=Aside0.mk hbox;have n2_:=Aside0.mk ((by rw [hg];exact (below_size (by with_reducible exact HB.out)):w.heap.size ≤ gb117));have n3_:=Aside0.mk ((by rw [hg];exact (below_size (by with_reducible exact HB.out)):w.heap.size ≤ gb117));clear HB;have HB:=n0_;have BK117:=n1_;have GW117:=n2_;have GE117:=n3_;clear n0_ n1_ n2_ n3_;clear hb hbox hg;have hcz14_0:w13.cell? ⟨gb117,0,none⟩ = some (.int .i64 0):=(blk_cell BK117.out 0).trans rfl;have hcz14_1:w13.cell? ⟨gb117,1,none⟩ = some (.int .i64 0):=(blk_cell BK117.out 1).trans rfl;have hcz14_2:w13.cell? ⟨gb117,2,none⟩ = some (.int .i64 0):=(blk_cell BK117.out 2).trans rfl;have hcz14_3:w13.cell? ⟨gb117,3,none⟩ = some (.int .i64 0):=(blk_cell BK117.out 3).trans rfl;have hcz14_4:w13.cell? ⟨gb117,4,none⟩ = some (.int .i64 0):=(blk_cell BK117.out 4).trans rfl;have hcz14_5:w13.cell? ⟨gb117,5,none⟩ = some (.string (⟨#[]⟩:ByteArray)):=(blk_cell BK117.out 5).trans rfl;have hcz14_6:w13.cell? ⟨gb117,6,none⟩ = some (.string (⟨#[]⟩:ByteArray)):=(blk_cell BK117.out 6).trans rfl;have hcz14_7:w13.cell? ⟨gb117,7,none⟩ = some (.string (⟨#[]⟩:ByteArray)):=(blk_cell BK117.out 7).trans rfl;have hfz14_0:=blk_frozen BK117.out 0;have hfz14_1:=blk_frozen BK117.out 1;have hfz14_2:=blk_frozen BK117.out 2;have hfz14_3:=blk_frozen BK117.out 3;have hfz14_4:=blk_frozen BK117.out 4;have hfz14_5:=blk_frozen BK117.out 5;have hfz14_6:=blk_frozen BK117.out 6;have hfz14_7:=blk_frozen BK117.out 7) | ((with_reducible refine gate_callee (f:=106) rfl ?_);refine goesL_ (some 14) rfl rfl Try.func106 (by kernel_rfl) rfl #[.agg #[.int .i64 ((rd_T128 l0 x8_1).f0),.int .i64 ((rd_T128 l0 x8_1).f1),.int .i64 ((rd_T128 l0 x8_1).f2),.int .i64 ((rd_T128 l0 x8_1).f3),.int .i64 ((rd_T128 l0 x8_1).f4),.string ((rd_T128 l0 x8_1).f5),.string ((rd_T128 l0 x8_1).f6),.string ((rd_T128 l0 x8_1).f7)]] rfl (by (try simp only [List.map_toArray,List.map_cons,List.map_nil]);rfl) ?_;(with_reducible refine (replica_op.calls k1 ((rd_T128 l0 x8_1).f0) ((rd_T128 l0 x8_1).f1) ((rd_T128 l0 x8_1).f2) ((rd_T128 l0 x8_1).f3) ((rd_T128 l0 x8_1).f4) ((rd_T128 l0 x8_1).f5) ((rd_T128 l0 x8_1).f6) ((rd_T128 l0 x8_1).f7) t118 _ A5.out).mono ?_);rintro e w15 ⟨rfl,hb⟩;refine ⟨_,rfl,?_⟩;have n0_:=Aside0.mk (blk_below (g:=gb117) (o:=.cells #[.int .i64 ((rd_T128 l0 x8_1).f0),.int .i64 ((rd_T128 l0 x8_1).f1),.int .i64 ((rd_T128 l0 x8_1).f2),.int .i64 ((rd_T128 l0 x8_1).f3),.int .i64 ((rd_T128 l0 x8_1).f4),.string ((rd_T128 l0 x8_1).f5),.string ((rd_T128 l0 x8_1).f6),.string ((rd_T128 l0 x8_1).f7)] 128 (0,0)) (by (with_reducible repeat (first | refine blk_drewN ?_ _ | refine blk_drew ?_ | refine blk_alloc ?_ _));refine blk_put (cs:=#[.int .i64 ((rd_T128 l0 x8_1).f0),.int .i64 ((rd_T128 l0 x8_1).f1),.int .i64 ((rd_T128 l0 x8_1).f2),.int .i64 ((rd_T128 l0 x8_1).f3),.int .i64 ((rd_T128 l0 x8_1).f4),.string ((rd_T128 l0 x8_1).f5),.string ((rd_T128 l0 x8_1).f6),.string (⟨#[]⟩:ByteArray)]) ?_ 7 _ rfl;(with_reducible repeat (first | refine blk_drewN ?_ _ | refine blk_drew ?_ | refine blk_alloc ?_ _));refine blk_put (cs:=#[.int .i64 ((rd_T128 l0 x8_1).f0),.int .i64 ((rd_T128 l0 x8_1).f1),.int .i64 ((rd_T128 l0 x8_1).f2),.int .i64 ((rd_T128 l0 x8_1).f3),.int .i64 ((rd_T128 l0 x8_1).f4),.string ((rd_T128 l0 x8_1).f5),.string (⟨#[]⟩:ByteArray),.string (⟨#[]⟩:ByteArray)]) ?_ 6 _ rfl;(with_reducible repeat (first | refine blk_drewN ?_ _ | refine blk_drew ?_ | refine blk_alloc ?_ _));refine blk_put (cs:=#[.int .i64 ((rd_T128 l0 x8_1).f0),.int .i64 ((rd_T128 l0 x8_1).f1),.int .i64 ((rd_T128 l0 x8_1).f2),.int .i64 ((rd_T128 l0 x8_1).f3),.int .i64 ((rd_T128 l0 x8_1).f4),.string (⟨#[]⟩:ByteArray),.string (⟨#[]⟩:ByteArray),.string (⟨#[]⟩:ByteArray)]) ?_ 5 _ rfl;(with_reducible repeat (first | refine blk_drewN ?_ _ | refine blk_drew ?_ | refine blk_alloc ?_ _));refine blk_put (cs:=#[.int .i64 ((rd_T128 l0 x8_1).f0),.int .i64 ((rd_T128 l0 x8_1).f1),.int .i64 ((rd_T128 l0 x8_1).f2),.int .i64 ((rd_T128 l0 x8_1).f3),.int .i64 0,.string (⟨#[]⟩:ByteArray),.string (⟨#[]⟩:ByteArray),.string (⟨#[]⟩:ByteArray)]) ?_ 4 _ rfl;(with_reducible repeat (first | refine blk_drewN ?_ _ | refine blk_drew ?_ | refine blk_alloc ?_ _));refine blk_put (cs:=#[.int .i64 ((rd_T128 l0 x8_1).f0),.int .i64 ((rd_T128 l0 x8_1).f1),.int .i64 ((rd_T128 l0 x8_1).f2),.int .i64 0,.int .i64 0,.string (⟨#[]⟩:ByteArray),.string (⟨#[]⟩:ByteArray),.string (⟨#[]⟩:ByteArray)]) ?_ 3 _ rfl;(with_reducible repeat (first | refine blk_drewN ?_ _ | refine blk_drew ?_ | refine blk_alloc ?_ _));refine blk_put (cs:=#[.int .i64 ((rd_T128 l0 x8_1).f0),.int .i64 ((rd_T128 l0 x8_1).f1),.int .i64 0,.int .i64 0,.int .i64 0,.string (⟨#[]⟩:ByteArray),.string (⟨#[]⟩:ByteArray),.string (⟨#[]⟩:ByteArray)]) ?_ 2 _ rfl;(with_reducible repeat (first | refine blk_drewN ?_ _ | refine blk_drew ?_ | refine blk_alloc ?_ _));refine blk_put (cs:=#[.int .i64 ((rd_T128 l0 x8_1).f0),.int .i64 0,.int .i64 0,.int .i64 0,.int .i64 0,.string (⟨#[]⟩:ByteArray),.string (⟨#[]⟩:ByteArray),.string (⟨#[]⟩:ByteArray)]) ?_ 1 _ rfl;(with_reducible repeat (first | refine blk_drewN ?_ _ | refine blk_drew ?_ | refine blk_alloc ?_ _));refine blk_put (cs:=#[.int .i64 0,.int .i64 0,.int .i64 0,.int .i64 0,.int .i64 0,.string (⟨#[]⟩:ByteArray),.string (⟨#[]⟩:ByteArray),.string (⟨#[]⟩:ByteArray)]) ?_ 0 _ rfl;exact BK117.out) hb);have n1_:=Aside0.mk (below_step (by repeat ((with_reducible first | exact HB.out | refine below_set ?_ GE117.out))) hb);clear BK117;clear HB;have BK117:=n0_;have HB:=n1_;clear n0_ n1_;(try clear hb);(try clear hb2);(try clear hk);(try clear hi)))
           have n0_:=Aside0.mk (blk_drew BK117.out)
           have n1_:=Aside0.mk (below_drew1 HB.out)
           clear BK117
           clear HB
           have BK117:=n0_
           have HB:=n1_
           clear n0_ n1_
           have p119:0 ≤ ((ji8):Int):=of_decide_eq_true (by assumption)
           have q119:(ji8) < (l0.length:Int):=of_decide_eq_true (by assumption)
           obtain ⟨ad119,e119,hx119_0,hx119_1,hx119_2,hx119_3,hx119_4,hx119_5,hx119_6,hx119_7⟩:=at_T128 HR0.out (ji8) p119 q119
           have hw119_7:=hx119_7
           have hw119_6:=hx119_6
           have hw119_5:=hx119_5
           have hw119_4:=hx119_4
           have hw119_3:=hx119_3
           have hw119_2:=hx119_2
           have hw119_1:=hx119_1
           have hw119_0:=hx119_0
           obtain rfl:ad116 = ad119:=(by injection e119)
           replace hx119_0:=(HB.out.cell (World.block_lt_of_cell? w _ hx119_0)).trans hx119_0
           replace hx119_1:=(HB.out.cell (World.block_lt_of_cell? w _ hx119_1)).trans hx119_1
           replace hx119_2:=(HB.out.cell (World.block_lt_of_cell? w _ hx119_2)).trans hx119_2
           replace hx119_3:=(HB.out.cell (World.block_lt_of_cell? w _ hx119_3)).trans hx119_3
           replace hx119_4:=(HB.out.cell (World.block_lt_of_cell? w _ hx119_4)).trans hx119_4
           replace hx119_5:=(HB.out.cell (World.block_lt_of_cell? w _ hx119_5)).trans hx119_5
           replace hx119_6:=(HB.out.cell (World.block_lt_of_cell? w _ hx119_6)).trans hx119_6
           replace hx119_7:=(HB.out.cell (World.block_lt_of_cell? w _ hx119_7)).trans hx119_7
           replace p119:=eq_true p119
           replace q119:=eq_true q119
           refine start_ (n:=12) (S:=fun w'=>w'.cell? ⟨gb117,0,none⟩ = some (.int .i64 ((rd_T128 l0 x8_1).f0)) ∧ w'.cell? ⟨gb117,1,none⟩ = some (.int .i64 ((rd_T128 l0 x8_1).f1)) ∧ w'.cell? ⟨gb117,2,none⟩ = some (.int .i64 ((rd_T128 l0 x8_1).f2)) ∧ w'.cell? ⟨gb117,3,none⟩ = some (.int .i64 ((rd_T128 l0 x8_1).f3)) ∧ w'.cell? ⟨gb117,4,none⟩ = some (.int .i64 ((rd_T128 l0 x8_1).f4)) ∧ w'.cell? ⟨gb117,5,none⟩ = some (.string ((rd_T128 l0 x8_1).f5)) ∧ w'.cell? ⟨gb117,6,none⟩ = some (.string ((rd_T128 l0 x8_1).f6)) ∧ w'.cell? ⟨gb117,7,none⟩ = some (.string ((rd_T128 l0 x8_1).f7)) ∧ w'.cell? (ad116.add (((ji8)).toNat * 8)) = some (.int .i64 ((rd_T128 l0 (ji8)).f0)) ∧ w'.cell? ⟨(ad116.add (((ji8)).toNat * 8)).block,(ad116.add (((ji8)).toNat * 8)).off + 1,none⟩ = some (.int .i64 ((rd_T128 l0 (ji8)).f1)) ∧ w'.cell? ⟨(ad116.add (((ji8)).toNat * 8)).block,(ad116.add (((ji8)).toNat * 8)).off + 2,none⟩ = some (.int .i64 ((rd_T128 l0 (ji8)).f2)) ∧ w'.cell? ⟨(ad116.add (((ji8)).toNat * 8)).block,(ad116.add (((ji8)).toNat * 8)).off + 3,none⟩ = some (.int .i64 ((rd_T128 l0 (ji8)).f3)) ∧ w'.cell? ⟨(ad116.add (((ji8)).toNat * 8)).block,(ad116.add (((ji8)).toNat * 8)).off + 4,none⟩ = some (.int .i64 ((rd_T128 l0 (ji8)).f4)) ∧ w'.cell? ⟨(ad116.add (((ji8)).toNat * 8)).block,(ad116.add (((ji8)).toNat * 8)).off + 5,none⟩ = some (.string ((rd_T128 l0 (ji8)).f5)) ∧ w'.cell? ⟨(ad116.add (((ji8)).toNat * 8)).block,(ad116.add (((ji8)).toNat * 8)).off + 6,none⟩ = some (.string ((rd_T128 l0 (ji8)).f6)) ∧ w'.cell? ⟨(ad116.add (((ji8)).toNat * 8)).block,(ad116.add (((ji8)).toNat * 8)).off + 7,none⟩ = some (.string ((rd_T128 l0 (ji8)).f7))) (ds:=[]) #[false,false,false,false,false,false,false,false,false,false,false,false] (by kernel_rfl) rfl rfl ⟨(blk_cell BK117.out 0).trans rfl,(blk_cell BK117.out 1).trans rfl,(blk_cell BK117.out 2).trans rfl,(blk_cell BK117.out 3).trans rfl,(blk_cell BK117.out 4).trans rfl,(blk_cell BK117.out 5).trans rfl,(blk_cell BK117.out 6).trans rfl,(blk_cell BK117.out 7).trans rfl,((HB.out.cell (World.block_lt_of_cell? w _ hw119_0)).trans hw119_0),((HB.out.cell (World.block_lt_of_cell? w _ hw119_1)).trans hw119_1),((HB.out.cell (World.block_lt_of_cell? w _ hw119_2)).trans hw119_2),((HB.out.cell (World.block_lt_of_cell? w _ hw119_3)).trans hw119_3),((HB.out.cell (World.block_lt_of_cell? w _ hw119_4)).trans hw119_4),((HB.out.cell (World.block_lt_of_cell? w _ hw119_5)).trans hw119_5),((HB.out.cell (World.block_lt_of_cell? w _ hw119_6)).trans hw119_6),((HB.out.cell (World.block_lt_of_cell? w _ hw119_7)).trans hw119_7)⟩ (fun hHeld=>?_);refine with_tabW replica_Check.tab7 replica_Check.bits7 (fun HT_ HW_=>?_)
           generalize w15.drew = w16 at BK117 HB hx119_0 hx119_1 hx119_2 hx119_3 hx119_4 hx119_5 hx119_6 hx119_7 hHeld ⊢
           refine pure_ (i:=0) (N:=some 18) (v:=?_) (a':=?_) (bm 1 12) rfl rfl (any_of HT_.out (by kernel_rfl)) (fun _ _ _ h=>h) (Or.inl ⟨by rfl,?_⟩) ?_ ?_
           rotate_left
           ·intro w'
            go_simp
            with_reducible rfl
           rotate_left
           ·simp only [Act.put,sA,sB,sC,i64_w,i32_w]
            rfl
           refine pure_ (i:=1) (N:=some 19) (v:=?_) (a':=?_) (bm 3 12) rfl rfl (any_of HT_.out (by kernel_rfl)) (fun _ _ _ h=>h) (Or.inl ⟨by rfl,?_⟩) ?_ ?_
           rotate_left
           ·intro w'
            go_simp
            with_reducible rfl
           rotate_left
           ·simp only [Act.put,sA,sB,sC,i64_w,i32_w]
            rfl
           refine pure_ (i:=2) (N:=some 20) (v:=?_) (a':=?_) (bm 7 12) rfl rfl (any_of HT_.out (by kernel_rfl)) (fun _ _ _ h=>h) (Or.inl ⟨by rfl,?_⟩) ?_ ?_
           rotate_left
           ·intro w'
            go_simp
            with_reducible rfl
           rotate_left
           ·simp only [Act.put,sA,sB,sC,i64_w,i32_w]
            rfl
           refine pure_ (i:=3) (N:=some 21) (v:=?_) (a':=?_) (bm 15 12) rfl rfl (any_of HT_.out (by kernel_rfl)) (fun _ _ _ h=>h) (Or.inl ⟨by rfl,?_⟩) ?_ ?_
           rotate_left
           ·intro w'
            go_simp
            with_reducible rfl
           rotate_left
           ·simp only [Act.put,sA,sB,sC,i64_w,i32_w]
            rfl
           refine pure_ (i:=4) (N:=some 22) (v:=?_) (a':=?_) (bm 31 12) rfl rfl (any_of HT_.out (by kernel_rfl)) (fun _ _ _ h=>h) (Or.inl ⟨by rfl,?_⟩) ?_ ?_
           rotate_left
           ·intro w'
            go_simp
            with_reducible rfl
           rotate_left
           ·simp only [Act.put,sA,sB,sC,i64_w,i32_w]
            rfl
           refine pure_ (i:=5) (N:=some 23) (v:=?_) (a':=?_) (bm 63 12) rfl rfl (any_of HT_.out (by kernel_rfl)) (fun _ _ _ h=>h) (Or.inl ⟨by rfl,?_⟩) ?_ ?_
           rotate_left
           ·intro w'
            go_simp
            with_reducible rfl
           rotate_left
           ·simp only [Act.put,sA,sB,sC,i64_w,i32_w]
            rfl
           refine pure_ (i:=6) (N:=some 24) (v:=?_) (a':=?_) (bm 127 12) rfl rfl (any_of HT_.out (by kernel_rfl)) (fun _ _ _ h=>h) (Or.inl ⟨by rfl,?_⟩) ?_ ?_
           rotate_left
           ·intro w'
            go_simp
            with_reducible rfl
           rotate_left
           ·simp only [Act.put,sA,sB,sC,i64_w,i32_w]
            rfl
           refine take_ (i:=7) (N:=some 25) (v:=?_) (a':=?_) (bm 255 12) rfl rfl (take_ofW HT_.out HW_.out (by kernel_rfl)) (fun _ _ _ h=>h) (Or.inl ⟨by rfl,?_⟩) hHeld ?_ ?_
           rotate_left
           ·rintro w' ⟨s0,s1,s2,s3,s4,s5,s6,s7,s8,s9,s10,s11,s12,s13,s14,s15⟩
            go_simp
            with_reducible rfl
           rotate_left
           ·simp only [Act.put,sA,sB,sC,i64_w,i32_w]
            rfl
           refine take_ (i:=8) (N:=some 26) (v:=?_) (a':=?_) (bm 511 12) rfl rfl (take_ofW HT_.out HW_.out (by kernel_rfl)) (fun _ _ _ h=>h) (Or.inl ⟨by rfl,?_⟩) hHeld ?_ ?_
           rotate_left
           ·rintro w' ⟨s0,s1,s2,s3,s4,s5,s6,s7,s8,s9,s10,s11,s12,s13,s14,s15⟩
            go_simp
            with_reducible rfl
           rotate_left
           ·simp only [Act.put,sA,sB,sC,i64_w,i32_w]
            rfl
           refine one_ (i:=9) (N:=some 27) (bm 1023 12) rfl rfl (one_of HT_.out (by kernel_rfl)) (by decide) (fun K hK=>?_)
           refine goes_ Try.func107 (by kernel_rfl) rfl #[.agg #[.int .i64 ((rd_T128 l0 (ji8)).f0),.int .i64 ((rd_T128 l0 (ji8)).f1),.int .i64 ((rd_T128 l0 (ji8)).f2),.int .i64 ((rd_T128 l0 (ji8)).f3),.int .i64 ((rd_T128 l0 (ji8)).f4),.string ((rd_T128 l0 (ji8)).f5),.string ((rd_T128 l0 (ji8)).f6),.string ((rd_T128 l0 (ji8)).f7)],.agg #[.int .i64 ((rd_T128 l0 x8_1).f0),.int .i64 ((rd_T128 l0 x8_1).f1),.int .i64 ((rd_T128 l0 x8_1).f2),.int .i64 ((rd_T128 l0 x8_1).f3),.int .i64 ((rd_T128 l0 x8_1).f4),.string ((rd_T128 l0 x8_1).f5),.string ((rd_T128 l0 x8_1).f6),.string ((rd_T128 l0 x8_1).f7)]] (by rfl) rfl rfl (by (try simp only [List.map_toArray,List.map_cons,List.map_nil]);rfl) ?_
           with_reducible refine (replica_stamps.calls k1 ((rd_T128 l0 (ji8)).f0) ((rd_T128 l0 (ji8)).f1) ((rd_T128 l0 (ji8)).f2) ((rd_T128 l0 (ji8)).f3) ((rd_T128 l0 (ji8)).f4) ((rd_T128 l0 (ji8)).f5) ((rd_T128 l0 (ji8)).f6) ((rd_T128 l0 (ji8)).f7) ((rd_T128 l0 x8_1).f0) ((rd_T128 l0 x8_1).f1) ((rd_T128 l0 x8_1).f2) ((rd_T128 l0 x8_1).f3) ((rd_T128 l0 x8_1).f4) ((rd_T128 l0 x8_1).f5) ((rd_T128 l0 x8_1).f6) ((rd_T128 l0 x8_1).f7) t120 _ A11.out).mono ?_
           rintro e w17 ⟨rfl,hb⟩
           refine ⟨_,rfl,?_⟩
           have n0_:=Aside0.mk (blk_below BK117.out hb)
           have n1_:=Aside0.mk (below_step HB.out hb)
           clear BK117
           clear HB
           have BK117:=n0_
           have HB:=n1_
           clear n0_ n1_
           (try clear hb)
           (try clear hb2)
           (try clear hk)
           (try clear hi)
           refine hK.out _ _ ⟨(blk_cell BK117.out 0).trans rfl,(blk_cell BK117.out 1).trans rfl,(blk_cell BK117.out 2).trans rfl,(blk_cell BK117.out 3).trans rfl,(blk_cell BK117.out 4).trans rfl,(blk_cell BK117.out 5).trans rfl,(blk_cell BK117.out 6).trans rfl,(blk_cell BK117.out 7).trans rfl,((HB.out.cell (World.block_lt_of_cell? w _ hw119_0)).trans hw119_0),((HB.out.cell (World.block_lt_of_cell? w _ hw119_1)).trans hw119_1),((HB.out.cell (World.block_lt_of_cell? w _ hw119_2)).trans hw119_2),((HB.out.cell (World.block_lt_of_cell? w _ hw119_3)).trans hw119_3),((HB.out.cell (World.block_lt_of_cell? w _ hw119_4)).trans hw119_4),((HB.out.cell (World.block_lt_of_cell? w _ hw119_5)).trans hw119_5),((HB.out.cell (World.block_lt_of_cell? w _ hw119_6)).trans hw119_6),((HB.out.cell (World.block_lt_of_cell? w _ hw119_7)).trans hw119_7)⟩ (fun hHeld=>?_)
           clear hK K
           refine norm_ (a':=?_) ?_ ?_
           rotate_left
           ·show Act.put _ (some 27) _ = _
            simp only [Act.put,sA,sB,sC,i64_w,i32_w]
            rfl
           refine pure_ (i:=10) (N:=some 28) (v:=?_) (a':=?_) (bm 2047 12) rfl rfl (any_of HT_.out (by kernel_rfl)) (fun _ _ _ h=>h) (Or.inl ⟨by rfl,?_⟩) ?_ ?_
           rotate_left
           ·intro w'
            go_simp
            with_reducible rfl
           rotate_left
           ·simp only [Act.put,sA,sB,sC,i64_w,i32_w]
            rfl
           refine pure_ (i:=11) (N:=some 29) (v:=?_) (a':=?_) (bm 4095 12) rfl rfl (any_of HT_.out (by kernel_rfl)) (fun _ _ _ h=>h) (Or.inl ⟨by rfl,?_⟩) ?_ ?_
           rotate_left
           ·intro w'
            go_simp
            with_reducible rfl
           rotate_left
           ·simp only [Act.put,sA,sB,sC,i64_w,i32_w]
            rfl
           refine done_ (done_of HT_.out (by kernel_rfl)) ?_
           try go_wp2
           go_ret
           exact ⟨by rfl,HB.out⟩
          ·rw [if_neg c12] at H
           have c12b0:decide (0 ≤ t120) = false:=decide_eq_false c12
           clear c12
           have H':=Aside0.mk H
           clear H
           have p116:0 ≤ (x8_1:Int):=of_decide_eq_true (by assumption)
           have q116:x8_1 < (l0.length:Int):=of_decide_eq_true (by assumption)
           obtain ⟨ad116,e116,hx116_0,hx116_1,hx116_2,hx116_3,hx116_4,hx116_5,hx116_6,hx116_7⟩:=at_T128 HR0.out x8_1 p116 q116
           cases e116
           replace hx116_0:=(HB.out.cell (World.block_lt_of_cell? w _ hx116_0)).trans hx116_0
           replace hx116_1:=(HB.out.cell (World.block_lt_of_cell? w _ hx116_1)).trans hx116_1
           replace hx116_2:=(HB.out.cell (World.block_lt_of_cell? w _ hx116_2)).trans hx116_2
           replace hx116_3:=(HB.out.cell (World.block_lt_of_cell? w _ hx116_3)).trans hx116_3
           replace hx116_4:=(HB.out.cell (World.block_lt_of_cell? w _ hx116_4)).trans hx116_4
           replace hx116_5:=(HB.out.cell (World.block_lt_of_cell? w _ hx116_5)).trans hx116_5
           replace hx116_6:=(HB.out.cell (World.block_lt_of_cell? w _ hx116_6)).trans hx116_6
           replace hx116_7:=(HB.out.cell (World.block_lt_of_cell? w _ hx116_7)).trans hx116_7
           replace p116:=eq_true p116
           replace q116:=eq_true q116
           try go_wp2_with (first | ((with_reducible refine gate_dst (N:=4) rfl ?_);refine box_event ?hg (N:=4) ?hd (cs:=#[.int .i64 0,.int .i64 0,.int .i64 0,.int .i64 0,.int .i64 0,.string (⟨#[]⟩:ByteArray),.string (⟨#[]⟩:ByteArray),.string (⟨#[]⟩:ByteArray)]) (t:=128) ?hr ?_;(case hd=>rfl);(case hg=>rfl);(case hr=>(go_simp;done));intro gb117 hg w18 hbox hb;have n0_:=Aside0.mk (below_step (by with_reducible exact HB.out) hb);have n1_:=Aside0.mk hbox;have n2_:=Aside0.mk ((by rw [hg];exact (below_size (by with_reducible exact HB.out)):w.heap.size ≤ gb117));have n3_:=Aside0.mk ((by rw [hg];exact (below_size (by with_reducible exact HB.out)):w.heap.size ≤ gb117));clear HB;have HB:=n0_;have BK117:=n1_;have GW117:=n2_;have GE117:=n3_;clear n0_ n1_ n2_ n3_;clear hb hbox hg;have hcz19_0:w18.cell? ⟨gb117,0,none⟩ = some (.int .i64 0):=(blk_cell BK117.out 0).trans rfl;have hcz19_1:w18.cell? ⟨gb117,1,none⟩ = some (.int .i64 0):=(blk_cell BK117.out 1).trans rfl;have hcz19_2:w18.cell? ⟨gb117,2,none⟩ = some (.int .i64 0):=(blk_cell BK117.out 2).trans rfl;have hcz19_3:w18.cell? ⟨gb117,3,none⟩ = some (.int .i64 0):=(blk_cell BK117.out 3).trans rfl;have hcz19_4:w18.cell? ⟨gb117,4,none⟩ = some (.int .i64 0):=(blk_cell BK117.out 4).trans rfl;have hcz19_5:w18.cell? ⟨gb117,5,none⟩ = some (.string (⟨#[]⟩:ByteArray)):=(blk_cell BK117.out 5).trans rfl;have hcz19_6:w18.cell? ⟨gb117,6,none⟩ = some (.string (⟨#[]⟩:ByteArray)):=(blk_cell BK117.out 6).trans rfl;have hcz19_7:w18.cell? ⟨gb117,7,none⟩ = some (.string (⟨#[]⟩:ByteArray)):=(blk_cell BK117.out 7).trans rfl;have hfz19_0:=blk_frozen BK117.out 0;have hfz19_1:=blk_frozen BK117.out 1;have hfz19_2:=blk_frozen BK117.out 2;have hfz19_3:=blk_frozen BK117.out 3;have hfz19_4:=blk_frozen BK117.out 4;have hfz19_5:=blk_frozen BK117.out 5;have hfz19_6:=blk_frozen BK117.out 6;have hfz19_7:=blk_frozen BK117.out 7) | ((with_reducible refine gate_callee (f:=106) rfl ?_);refine goesL_ (some 14) rfl rfl Try.func106 (by kernel_rfl) rfl #[.agg #[.int .i64 ((rd_T128 l0 x8_1).f0),.int .i64 ((rd_T128 l0 x8_1).f1),.int .i64 ((rd_T128 l0 x8_1).f2),.int .i64 ((rd_T128 l0 x8_1).f3),.int .i64 ((rd_T128 l0 x8_1).f4),.string ((rd_T128 l0 x8_1).f5),.string ((rd_T128 l0 x8_1).f6),.string ((rd_T128 l0 x8_1).f7)]] rfl (by (try simp only [List.map_toArray,List.map_cons,List.map_nil]);rfl) ?_;(with_reducible refine (replica_op.calls k1 ((rd_T128 l0 x8_1).f0) ((rd_T128 l0 x8_1).f1) ((rd_T128 l0 x8_1).f2) ((rd_T128 l0 x8_1).f3) ((rd_T128 l0 x8_1).f4) ((rd_T128 l0 x8_1).f5) ((rd_T128 l0 x8_1).f6) ((rd_T128 l0 x8_1).f7) t118 _ A5.out).mono ?_);rintro e w20 ⟨rfl,hb⟩;refine ⟨_,rfl,?_⟩;have n0_:=Aside0.mk (blk_below (g:=gb117) (o:=.cells #[.int .i64 ((rd_T128 l0 x8_1).f0),.int .i64 ((rd_T128 l0 x8_1).f1),.int .i64 ((rd_T128 l0 x8_1).f2),.int .i64 ((rd_T128 l0 x8_1).f3),.int .i64 ((rd_T128 l0 x8_1).f4),.string ((rd_T128 l0 x8_1).f5),.string ((rd_T128 l0 x8_1).f6),.string ((rd_T128 l0 x8_1).f7)] 128 (0,0)) (by (with_reducible repeat (first | refine blk_drewN ?_ _ | refine blk_drew ?_ | refine blk_alloc ?_ _));refine blk_put (cs:=#[.int .i64 ((rd_T128 l0 x8_1).f0),.int .i64 ((rd_T128 l0 x8_1).f1),.int .i64 ((rd_T128 l0 x8_1).f2),.int .i64 ((rd_T128 l0 x8_1).f3),.int .i64 ((rd_T128 l0 x8_1).f4),.string ((rd_T128 l0 x8_1).f5),.string ((rd_T128 l0 x8_1).f6),.string (⟨#[]⟩:ByteArray)]) ?_ 7 _ rfl;(with_reducible repeat (first | refine blk_drewN ?_ _ | refine blk_drew ?_ | refine blk_alloc ?_ _));refine blk_put (cs:=#[.int .i64 ((rd_T128 l0 x8_1).f0),.int .i64 ((rd_T128 l0 x8_1).f1),.int .i64 ((rd_T128 l0 x8_1).f2),.int .i64 ((rd_T128 l0 x8_1).f3),.int .i64 ((rd_T128 l0 x8_1).f4),.string ((rd_T128 l0 x8_1).f5),.string (⟨#[]⟩:ByteArray),.string (⟨#[]⟩:ByteArray)]) ?_ 6 _ rfl;(with_reducible repeat (first | refine blk_drewN ?_ _ | refine blk_drew ?_ | refine blk_alloc ?_ _));refine blk_put (cs:=#[.int .i64 ((rd_T128 l0 x8_1).f0),.int .i64 ((rd_T128 l0 x8_1).f1),.int .i64 ((rd_T128 l0 x8_1).f2),.int .i64 ((rd_T128 l0 x8_1).f3),.int .i64 ((rd_T128 l0 x8_1).f4),.string (⟨#[]⟩:ByteArray),.string (⟨#[]⟩:ByteArray),.string (⟨#[]⟩:ByteArray)]) ?_ 5 _ rfl;(with_reducible repeat (first | refine blk_drewN ?_ _ | refine blk_drew ?_ | refine blk_alloc ?_ _));refine blk_put (cs:=#[.int .i64 ((rd_T128 l0 x8_1).f0),.int .i64 ((rd_T128 l0 x8_1).f1),.int .i64 ((rd_T128 l0 x8_1).f2),.int .i64 ((rd_T128 l0 x8_1).f3),.int .i64 0,.string (⟨#[]⟩:ByteArray),.string (⟨#[]⟩:ByteArray),.string (⟨#[]⟩:ByteArray)]) ?_ 4 _ rfl;(with_reducible repeat (first | refine blk_drewN ?_ _ | refine blk_drew ?_ | refine blk_alloc ?_ _));refine blk_put (cs:=#[.int .i64 ((rd_T128 l0 x8_1).f0),.int .i64 ((rd_T128 l0 x8_1).f1),.int .i64 ((rd_T128 l0 x8_1).f2),.int .i64 0,.int .i64 0,.string (⟨#[]⟩:ByteArray),.string (⟨#[]⟩:ByteArray),.string (⟨#[]⟩:ByteArray)]) ?_ 3 _ rfl;(with_reducible repeat (first | refine blk_drewN ?_ _ | refine blk_drew ?_ | refine blk_alloc ?_ _));refine blk_put (cs:=#[.int .i64 ((rd_T128 l0 x8_1).f0),.int .i64 ((rd_T128 l0 x8_1).f1),.int .i64 0,.int .i64 0,.int .i64 0,.string (⟨#[]⟩:ByteArray),.string (⟨#[]⟩:ByteArray),.string (⟨#[]⟩:ByteArray)]) ?_ 2 _ rfl;(with_reducible repeat (first | refine blk_drewN ?_ _ | refine blk_drew ?_ | refine blk_alloc ?_ _));refine blk_put (cs:=#[.int .i64 ((rd_T128 l0 x8_1).f0),.int .i64 0,.int .i64 0,.int .i64 0,.int .i64 0,.string (⟨#[]⟩:ByteArray),.string (⟨#[]⟩:ByteArray),.string (⟨#[]⟩:ByteArray)]) ?_ 1 _ rfl;(with_reducible repeat (first | refine blk_drewN ?_ _ | refine blk_drew ?_ | refine blk_alloc ?_ _));refine blk_put (cs:=#[.int .i64 0,.int .i64 0,.int .i64 0,.int .i64 0,.int .i64 0,.string (⟨#[]⟩:ByteArray),.string (⟨#[]⟩:ByteArray),.string (⟨#[]⟩:ByteArray)]) ?_ 0 _ rfl;exact BK117.out) hb);have n1_:=Aside0.mk (below_step (by repeat ((with_reducible first | exact HB.out | refine below_set ?_ GE117.out))) hb);clear BK117;clear HB;have BK117:=n0_;have HB:=n1_;clear n0_ n1_;(try clear hb);(try clear hb2);(try clear hk);(try clear hi)))
           have n0_:=Aside0.mk (blk_drew BK117.out)
           have n1_:=Aside0.mk (below_drew1 HB.out)
           clear BK117
           clear HB
           have BK117:=n0_
           have HB:=n1_
           clear n0_ n1_
           have p119:0 ≤ ((ji8):Int):=of_decide_eq_true (by assumption)
           have q119:(ji8) < (l0.length:Int):=of_decide_eq_true (by assumption)
           obtain ⟨ad119,e119,hx119_0,hx119_1,hx119_2,hx119_3,hx119_4,hx119_5,hx119_6,hx119_7⟩:=at_T128 HR0.out (ji8) p119 q119
           have hw119_7:=hx119_7
           have hw119_6:=hx119_6
           have hw119_5:=hx119_5
           have hw119_4:=hx119_4
           have hw119_3:=hx119_3
           have hw119_2:=hx119_2
           have hw119_1:=hx119_1
           have hw119_0:=hx119_0
           obtain rfl:ad116 = ad119:=(by injection e119)
           replace hx119_0:=(HB.out.cell (World.block_lt_of_cell? w _ hx119_0)).trans hx119_0
           replace hx119_1:=(HB.out.cell (World.block_lt_of_cell? w _ hx119_1)).trans hx119_1
           replace hx119_2:=(HB.out.cell (World.block_lt_of_cell? w _ hx119_2)).trans hx119_2
           replace hx119_3:=(HB.out.cell (World.block_lt_of_cell? w _ hx119_3)).trans hx119_3
           replace hx119_4:=(HB.out.cell (World.block_lt_of_cell? w _ hx119_4)).trans hx119_4
           replace hx119_5:=(HB.out.cell (World.block_lt_of_cell? w _ hx119_5)).trans hx119_5
           replace hx119_6:=(HB.out.cell (World.block_lt_of_cell? w _ hx119_6)).trans hx119_6
           replace hx119_7:=(HB.out.cell (World.block_lt_of_cell? w _ hx119_7)).trans hx119_7
           replace p119:=eq_true p119
           replace q119:=eq_true q119
           refine start_ (n:=12) (S:=fun w'=>w'.cell? ⟨gb117,0,none⟩ = some (.int .i64 ((rd_T128 l0 x8_1).f0)) ∧ w'.cell? ⟨gb117,1,none⟩ = some (.int .i64 ((rd_T128 l0 x8_1).f1)) ∧ w'.cell? ⟨gb117,2,none⟩ = some (.int .i64 ((rd_T128 l0 x8_1).f2)) ∧ w'.cell? ⟨gb117,3,none⟩ = some (.int .i64 ((rd_T128 l0 x8_1).f3)) ∧ w'.cell? ⟨gb117,4,none⟩ = some (.int .i64 ((rd_T128 l0 x8_1).f4)) ∧ w'.cell? ⟨gb117,5,none⟩ = some (.string ((rd_T128 l0 x8_1).f5)) ∧ w'.cell? ⟨gb117,6,none⟩ = some (.string ((rd_T128 l0 x8_1).f6)) ∧ w'.cell? ⟨gb117,7,none⟩ = some (.string ((rd_T128 l0 x8_1).f7)) ∧ w'.cell? (ad116.add (((ji8)).toNat * 8)) = some (.int .i64 ((rd_T128 l0 (ji8)).f0)) ∧ w'.cell? ⟨(ad116.add (((ji8)).toNat * 8)).block,(ad116.add (((ji8)).toNat * 8)).off + 1,none⟩ = some (.int .i64 ((rd_T128 l0 (ji8)).f1)) ∧ w'.cell? ⟨(ad116.add (((ji8)).toNat * 8)).block,(ad116.add (((ji8)).toNat * 8)).off + 2,none⟩ = some (.int .i64 ((rd_T128 l0 (ji8)).f2)) ∧ w'.cell? ⟨(ad116.add (((ji8)).toNat * 8)).block,(ad116.add (((ji8)).toNat * 8)).off + 3,none⟩ = some (.int .i64 ((rd_T128 l0 (ji8)).f3)) ∧ w'.cell? ⟨(ad116.add (((ji8)).toNat * 8)).block,(ad116.add (((ji8)).toNat * 8)).off + 4,none⟩ = some (.int .i64 ((rd_T128 l0 (ji8)).f4)) ∧ w'.cell? ⟨(ad116.add (((ji8)).toNat * 8)).block,(ad116.add (((ji8)).toNat * 8)).off + 5,none⟩ = some (.string ((rd_T128 l0 (ji8)).f5)) ∧ w'.cell? ⟨(ad116.add (((ji8)).toNat * 8)).block,(ad116.add (((ji8)).toNat * 8)).off + 6,none⟩ = some (.string ((rd_T128 l0 (ji8)).f6)) ∧ w'.cell? ⟨(ad116.add (((ji8)).toNat * 8)).block,(ad116.add (((ji8)).toNat * 8)).off + 7,none⟩ = some (.string ((rd_T128 l0 (ji8)).f7))) (ds:=[]) #[false,false,false,false,false,false,false,false,false,false,false,false] (by kernel_rfl) rfl rfl ⟨(blk_cell BK117.out 0).trans rfl,(blk_cell BK117.out 1).trans rfl,(blk_cell BK117.out 2).trans rfl,(blk_cell BK117.out 3).trans rfl,(blk_cell BK117.out 4).trans rfl,(blk_cell BK117.out 5).trans rfl,(blk_cell BK117.out 6).trans rfl,(blk_cell BK117.out 7).trans rfl,((HB.out.cell (World.block_lt_of_cell? w _ hw119_0)).trans hw119_0),((HB.out.cell (World.block_lt_of_cell? w _ hw119_1)).trans hw119_1),((HB.out.cell (World.block_lt_of_cell? w _ hw119_2)).trans hw119_2),((HB.out.cell (World.block_lt_of_cell? w _ hw119_3)).trans hw119_3),((HB.out.cell (World.block_lt_of_cell? w _ hw119_4)).trans hw119_4),((HB.out.cell (World.block_lt_of_cell? w _ hw119_5)).trans hw119_5),((HB.out.cell (World.block_lt_of_cell? w _ hw119_6)).trans hw119_6),((HB.out.cell (World.block_lt_of_cell? w _ hw119_7)).trans hw119_7)⟩ (fun hHeld=>?_);refine with_tabW replica_Check.tab7 replica_Check.bits7 (fun HT_ HW_=>?_)
           generalize w20.drew = w21 at BK117 HB hx119_0 hx119_1 hx119_2 hx119_3 hx119_4 hx119_5 hx119_6 hx119_7 hHeld ⊢
           refine pure_ (i:=0) (N:=some 18) (v:=?_) (a':=?_) (bm 1 12) rfl rfl (any_of HT_.out (by kernel_rfl)) (fun _ _ _ h=>h) (Or.inl ⟨by rfl,?_⟩) ?_ ?_
           rotate_left
           ·intro w'
            go_simp
            with_reducible rfl
           rotate_left
           ·simp only [Act.put,sA,sB,sC,i64_w,i32_w]
            rfl
           refine pure_ (i:=1) (N:=some 19) (v:=?_) (a':=?_) (bm 3 12) rfl rfl (any_of HT_.out (by kernel_rfl)) (fun _ _ _ h=>h) (Or.inl ⟨by rfl,?_⟩) ?_ ?_
           rotate_left
           ·intro w'
            go_simp
            with_reducible rfl
           rotate_left
           ·simp only [Act.put,sA,sB,sC,i64_w,i32_w]
            rfl
           refine pure_ (i:=2) (N:=some 20) (v:=?_) (a':=?_) (bm 7 12) rfl rfl (any_of HT_.out (by kernel_rfl)) (fun _ _ _ h=>h) (Or.inl ⟨by rfl,?_⟩) ?_ ?_
           rotate_left
           ·intro w'
            go_simp
            with_reducible rfl
           rotate_left
           ·simp only [Act.put,sA,sB,sC,i64_w,i32_w]
            rfl
           refine pure_ (i:=3) (N:=some 21) (v:=?_) (a':=?_) (bm 15 12) rfl rfl (any_of HT_.out (by kernel_rfl)) (fun _ _ _ h=>h) (Or.inl ⟨by rfl,?_⟩) ?_ ?_
           rotate_left
           ·intro w'
            go_simp
            with_reducible rfl
           rotate_left
           ·simp only [Act.put,sA,sB,sC,i64_w,i32_w]
            rfl
           refine pure_ (i:=4) (N:=some 22) (v:=?_) (a':=?_) (bm 31 12) rfl rfl (any_of HT_.out (by kernel_rfl)) (fun _ _ _ h=>h) (Or.inl ⟨by rfl,?_⟩) ?_ ?_
           rotate_left
           ·intro w'
            go_simp
            with_reducible rfl
           rotate_left
           ·simp only [Act.put,sA,sB,sC,i64_w,i32_w]
            rfl
           refine pure_ (i:=5) (N:=some 23) (v:=?_) (a':=?_) (bm 63 12) rfl rfl (any_of HT_.out (by kernel_rfl)) (fun _ _ _ h=>h) (Or.inl ⟨by rfl,?_⟩) ?_ ?_
           rotate_left
           ·intro w'
            go_simp
            with_reducible rfl
           rotate_left
           ·simp only [Act.put,sA,sB,sC,i64_w,i32_w]
            rfl
           refine pure_ (i:=6) (N:=some 24) (v:=?_) (a':=?_) (bm 127 12) rfl rfl (any_of HT_.out (by kernel_rfl)) (fun _ _ _ h=>h) (Or.inl ⟨by rfl,?_⟩) ?_ ?_
           rotate_left
           ·intro w'
            go_simp
            with_reducible rfl
           rotate_left
           ·simp only [Act.put,sA,sB,sC,i64_w,i32_w]
            rfl
           refine take_ (i:=7) (N:=some 25) (v:=?_) (a':=?_) (bm 255 12) rfl rfl (take_ofW HT_.out HW_.out (by kernel_rfl)) (fun _ _ _ h=>h) (Or.inl ⟨by rfl,?_⟩) hHeld ?_ ?_
           rotate_left
           ·rintro w' ⟨s0,s1,s2,s3,s4,s5,s6,s7,s8,s9,s10,s11,s12,s13,s14,s15⟩
            go_simp
            with_reducible rfl
           rotate_left
           ·simp only [Act.put,sA,sB,sC,i64_w,i32_w]
            rfl
           refine take_ (i:=8) (N:=some 26) (v:=?_) (a':=?_) (bm 511 12) rfl rfl (take_ofW HT_.out HW_.out (by kernel_rfl)) (fun _ _ _ h=>h) (Or.inl ⟨by rfl,?_⟩) hHeld ?_ ?_
           rotate_left
           ·rintro w' ⟨s0,s1,s2,s3,s4,s5,s6,s7,s8,s9,s10,s11,s12,s13,s14,s15⟩
            go_simp
            with_reducible rfl
           rotate_left
           ·simp only [Act.put,sA,sB,sC,i64_w,i32_w]
            rfl
           refine one_ (i:=9) (N:=some 27) (bm 1023 12) rfl rfl (one_of HT_.out (by kernel_rfl)) (by decide) (fun K hK=>?_)
           refine goes_ Try.func107 (by kernel_rfl) rfl #[.agg #[.int .i64 ((rd_T128 l0 (ji8)).f0),.int .i64 ((rd_T128 l0 (ji8)).f1),.int .i64 ((rd_T128 l0 (ji8)).f2),.int .i64 ((rd_T128 l0 (ji8)).f3),.int .i64 ((rd_T128 l0 (ji8)).f4),.string ((rd_T128 l0 (ji8)).f5),.string ((rd_T128 l0 (ji8)).f6),.string ((rd_T128 l0 (ji8)).f7)],.agg #[.int .i64 ((rd_T128 l0 x8_1).f0),.int .i64 ((rd_T128 l0 x8_1).f1),.int .i64 ((rd_T128 l0 x8_1).f2),.int .i64 ((rd_T128 l0 x8_1).f3),.int .i64 ((rd_T128 l0 x8_1).f4),.string ((rd_T128 l0 x8_1).f5),.string ((rd_T128 l0 x8_1).f6),.string ((rd_T128 l0 x8_1).f7)]] (by rfl) rfl rfl (by (try simp only [List.map_toArray,List.map_cons,List.map_nil]);rfl) ?_
           with_reducible refine (replica_stamps.calls k1 ((rd_T128 l0 (ji8)).f0) ((rd_T128 l0 (ji8)).f1) ((rd_T128 l0 (ji8)).f2) ((rd_T128 l0 (ji8)).f3) ((rd_T128 l0 (ji8)).f4) ((rd_T128 l0 (ji8)).f5) ((rd_T128 l0 (ji8)).f6) ((rd_T128 l0 (ji8)).f7) ((rd_T128 l0 x8_1).f0) ((rd_T128 l0 x8_1).f1) ((rd_T128 l0 x8_1).f2) ((rd_T128 l0 x8_1).f3) ((rd_T128 l0 x8_1).f4) ((rd_T128 l0 x8_1).f5) ((rd_T128 l0 x8_1).f6) ((rd_T128 l0 x8_1).f7) t120 _ A11.out).mono ?_
           rintro e w22 ⟨rfl,hb⟩
           refine ⟨_,rfl,?_⟩
           have n0_:=Aside0.mk (blk_below BK117.out hb)
           have n1_:=Aside0.mk (below_step HB.out hb)
           clear BK117
           clear HB
           have BK117:=n0_
           have HB:=n1_
           clear n0_ n1_
           (try clear hb)
           (try clear hb2)
           (try clear hk)
           (try clear hi)
           refine hK.out _ _ ⟨(blk_cell BK117.out 0).trans rfl,(blk_cell BK117.out 1).trans rfl,(blk_cell BK117.out 2).trans rfl,(blk_cell BK117.out 3).trans rfl,(blk_cell BK117.out 4).trans rfl,(blk_cell BK117.out 5).trans rfl,(blk_cell BK117.out 6).trans rfl,(blk_cell BK117.out 7).trans rfl,((HB.out.cell (World.block_lt_of_cell? w _ hw119_0)).trans hw119_0),((HB.out.cell (World.block_lt_of_cell? w _ hw119_1)).trans hw119_1),((HB.out.cell (World.block_lt_of_cell? w _ hw119_2)).trans hw119_2),((HB.out.cell (World.block_lt_of_cell? w _ hw119_3)).trans hw119_3),((HB.out.cell (World.block_lt_of_cell? w _ hw119_4)).trans hw119_4),((HB.out.cell (World.block_lt_of_cell? w _ hw119_5)).trans hw119_5),((HB.out.cell (World.block_lt_of_cell? w _ hw119_6)).trans hw119_6),((HB.out.cell (World.block_lt_of_cell? w _ hw119_7)).trans hw119_7)⟩ (fun hHeld=>?_)
           clear hK K
           refine norm_ (a':=?_) ?_ ?_
           rotate_left
           ·show Act.put _ (some 27) _ = _
            simp only [Act.put,sA,sB,sC,i64_w,i32_w]
            rfl
           refine pure_ (i:=10) (N:=some 28) (v:=?_) (a':=?_) (bm 2047 12) rfl rfl (any_of HT_.out (by kernel_rfl)) (fun _ _ _ h=>h) (Or.inl ⟨by rfl,?_⟩) ?_ ?_
           rotate_left
           ·intro w'
            go_simp
            with_reducible rfl
           rotate_left
           ·simp only [Act.put,sA,sB,sC,i64_w,i32_w]
            rfl
           refine pure_ (i:=11) (N:=some 29) (v:=?_) (a':=?_) (bm 4095 12) rfl rfl (any_of HT_.out (by kernel_rfl)) (fun _ _ _ h=>h) (Or.inl ⟨by rfl,?_⟩) ?_ ?_
           rotate_left
           ·intro w'
            go_simp
            with_reducible rfl
           rotate_left
           ·simp only [Act.put,sA,sB,sC,i64_w,i32_w]
            rfl
           refine done_ (done_of HT_.out (by kernel_rfl)) ?_
           try go_wp2
           go_roundg k1
           case measure=>have:=HK1.out;omega
           case rel=>exact ⟨(wrap64 (x8_1 + 1)),(by rfl),H',⟨by have:=HK1.out;omega⟩,⟨HB.out⟩⟩
         ·rw [if_neg c10] at H
          exact absurd H (by simp)
        ·rw [if_neg c9] at H
         exact absurd H (by simp)
       ·rw [if_neg c7] at H
        have c7b0:decide (0 < x8_1) = false:=decide_eq_false c7
        clear c7
        have H':=Aside0.mk H
        clear H
        have p116:0 ≤ (x8_1:Int):=of_decide_eq_true (by assumption)
        have q116:x8_1 < (l0.length:Int):=of_decide_eq_true (by assumption)
        obtain ⟨ad116,e116,hx116_0,hx116_1,hx116_2,hx116_3,hx116_4,hx116_5,hx116_6,hx116_7⟩:=at_T128 HR0.out x8_1 p116 q116
        cases e116
        replace hx116_0:=(HB.out.cell (World.block_lt_of_cell? w _ hx116_0)).trans hx116_0
        replace hx116_1:=(HB.out.cell (World.block_lt_of_cell? w _ hx116_1)).trans hx116_1
        replace hx116_2:=(HB.out.cell (World.block_lt_of_cell? w _ hx116_2)).trans hx116_2
        replace hx116_3:=(HB.out.cell (World.block_lt_of_cell? w _ hx116_3)).trans hx116_3
        replace hx116_4:=(HB.out.cell (World.block_lt_of_cell? w _ hx116_4)).trans hx116_4
        replace hx116_5:=(HB.out.cell (World.block_lt_of_cell? w _ hx116_5)).trans hx116_5
        replace hx116_6:=(HB.out.cell (World.block_lt_of_cell? w _ hx116_6)).trans hx116_6
        replace hx116_7:=(HB.out.cell (World.block_lt_of_cell? w _ hx116_7)).trans hx116_7
        replace p116:=eq_true p116
        replace q116:=eq_true q116
        try go_wp2_with (first | ((with_reducible refine gate_dst (N:=4) rfl ?_);refine box_event ?hg (N:=4) ?hd (cs:=#[.int .i64 0,.int .i64 0,.int .i64 0,.int .i64 0,.int .i64 0,.string (⟨#[]⟩:ByteArray),.string (⟨#[]⟩:ByteArray),.string (⟨#[]⟩:ByteArray)]) (t:=128) ?hr ?_;(case hd=>rfl);(case hg=>rfl);(case hr=>(go_simp;done));intro gb117 hg w23 hbox hb;have n0_:=Aside0.mk (below_step (by with_reducible exact HB.out) hb);have n1_:=Aside0.mk hbox;have n2_:=Aside0.mk ((by rw [hg];exact (below_size (by with_reducible exact HB.out)):w.heap.size ≤ gb117));have n3_:=Aside0.mk ((by rw [hg];exact (below_size (by with_reducible exact HB.out)):w.heap.size ≤ gb117));clear HB;have HB:=n0_;have BK117:=n1_;have GW117:=n2_;have GE117:=n3_;clear n0_ n1_ n2_ n3_;clear hb hbox hg;have hcz24_0:w23.cell? ⟨gb117,0,none⟩ = some (.int .i64 0):=(blk_cell BK117.out 0).trans rfl;have hcz24_1:w23.cell? ⟨gb117,1,none⟩ = some (.int .i64 0):=(blk_cell BK117.out 1).trans rfl;have hcz24_2:w23.cell? ⟨gb117,2,none⟩ = some (.int .i64 0):=(blk_cell BK117.out 2).trans rfl;have hcz24_3:w23.cell? ⟨gb117,3,none⟩ = some (.int .i64 0):=(blk_cell BK117.out 3).trans rfl;have hcz24_4:w23.cell? ⟨gb117,4,none⟩ = some (.int .i64 0):=(blk_cell BK117.out 4).trans rfl;have hcz24_5:w23.cell? ⟨gb117,5,none⟩ = some (.string (⟨#[]⟩:ByteArray)):=(blk_cell BK117.out 5).trans rfl;have hcz24_6:w23.cell? ⟨gb117,6,none⟩ = some (.string (⟨#[]⟩:ByteArray)):=(blk_cell BK117.out 6).trans rfl;have hcz24_7:w23.cell? ⟨gb117,7,none⟩ = some (.string (⟨#[]⟩:ByteArray)):=(blk_cell BK117.out 7).trans rfl;have hfz24_0:=blk_frozen BK117.out 0;have hfz24_1:=blk_frozen BK117.out 1;have hfz24_2:=blk_frozen BK117.out 2;have hfz24_3:=blk_frozen BK117.out 3;have hfz24_4:=blk_frozen BK117.out 4;have hfz24_5:=blk_frozen BK117.out 5;have hfz24_6:=blk_frozen BK117.out 6;have hfz24_7:=blk_frozen BK117.out 7) | ((with_reducible refine gate_callee (f:=106) rfl ?_);refine goesL_ (some 14) rfl rfl Try.func106 (by kernel_rfl) rfl #[.agg #[.int .i64 ((rd_T128 l0 x8_1).f0),.int .i64 ((rd_T128 l0 x8_1).f1),.int .i64 ((rd_T128 l0 x8_1).f2),.int .i64 ((rd_T128 l0 x8_1).f3),.int .i64 ((rd_T128 l0 x8_1).f4),.string ((rd_T128 l0 x8_1).f5),.string ((rd_T128 l0 x8_1).f6),.string ((rd_T128 l0 x8_1).f7)]] rfl (by (try simp only [List.map_toArray,List.map_cons,List.map_nil]);rfl) ?_;(with_reducible refine (replica_op.calls k1 ((rd_T128 l0 x8_1).f0) ((rd_T128 l0 x8_1).f1) ((rd_T128 l0 x8_1).f2) ((rd_T128 l0 x8_1).f3) ((rd_T128 l0 x8_1).f4) ((rd_T128 l0 x8_1).f5) ((rd_T128 l0 x8_1).f6) ((rd_T128 l0 x8_1).f7) t118 _ A5.out).mono ?_);rintro e w25 ⟨rfl,hb⟩;refine ⟨_,rfl,?_⟩;have n0_:=Aside0.mk (blk_below (g:=gb117) (o:=.cells #[.int .i64 ((rd_T128 l0 x8_1).f0),.int .i64 ((rd_T128 l0 x8_1).f1),.int .i64 ((rd_T128 l0 x8_1).f2),.int .i64 ((rd_T128 l0 x8_1).f3),.int .i64 ((rd_T128 l0 x8_1).f4),.string ((rd_T128 l0 x8_1).f5),.string ((rd_T128 l0 x8_1).f6),.string ((rd_T128 l0 x8_1).f7)] 128 (0,0)) (by (with_reducible repeat (first | refine blk_drewN ?_ _ | refine blk_drew ?_ | refine blk_alloc ?_ _));refine blk_put (cs:=#[.int .i64 ((rd_T128 l0 x8_1).f0),.int .i64 ((rd_T128 l0 x8_1).f1),.int .i64 ((rd_T128 l0 x8_1).f2),.int .i64 ((rd_T128 l0 x8_1).f3),.int .i64 ((rd_T128 l0 x8_1).f4),.string ((rd_T128 l0 x8_1).f5),.string ((rd_T128 l0 x8_1).f6),.string (⟨#[]⟩:ByteArray)]) ?_ 7 _ rfl;(with_reducible repeat (first | refine blk_drewN ?_ _ | refine blk_drew ?_ | refine blk_alloc ?_ _));refine blk_put (cs:=#[.int .i64 ((rd_T128 l0 x8_1).f0),.int .i64 ((rd_T128 l0 x8_1).f1),.int .i64 ((rd_T128 l0 x8_1).f2),.int .i64 ((rd_T128 l0 x8_1).f3),.int .i64 ((rd_T128 l0 x8_1).f4),.string ((rd_T128 l0 x8_1).f5),.string (⟨#[]⟩:ByteArray),.string (⟨#[]⟩:ByteArray)]) ?_ 6 _ rfl;(with_reducible repeat (first | refine blk_drewN ?_ _ | refine blk_drew ?_ | refine blk_alloc ?_ _));refine blk_put (cs:=#[.int .i64 ((rd_T128 l0 x8_1).f0),.int .i64 ((rd_T128 l0 x8_1).f1),.int .i64 ((rd_T128 l0 x8_1).f2),.int .i64 ((rd_T128 l0 x8_1).f3),.int .i64 ((rd_T128 l0 x8_1).f4),.string (⟨#[]⟩:ByteArray),.string (⟨#[]⟩:ByteArray),.string (⟨#[]⟩:ByteArray)]) ?_ 5 _ rfl;(with_reducible repeat (first | refine blk_drewN ?_ _ | refine blk_drew ?_ | refine blk_alloc ?_ _));refine blk_put (cs:=#[.int .i64 ((rd_T128 l0 x8_1).f0),.int .i64 ((rd_T128 l0 x8_1).f1),.int .i64 ((rd_T128 l0 x8_1).f2),.int .i64 ((rd_T128 l0 x8_1).f3),.int .i64 0,.string (⟨#[]⟩:ByteArray),.string (⟨#[]⟩:ByteArray),.string (⟨#[]⟩:ByteArray)]) ?_ 4 _ rfl;(with_reducible repeat (first | refine blk_drewN ?_ _ | refine blk_drew ?_ | refine blk_alloc ?_ _));refine blk_put (cs:=#[.int .i64 ((rd_T128 l0 x8_1).f0),.int .i64 ((rd_T128 l0 x8_1).f1),.int .i64 ((rd_T128 l0 x8_1).f2),.int .i64 0,.int .i64 0,.string (⟨#[]⟩:ByteArray),.string (⟨#[]⟩:ByteArray),.string (⟨#[]⟩:ByteArray)]) ?_ 3 _ rfl;(with_reducible repeat (first | refine blk_drewN ?_ _ | refine blk_drew ?_ | refine blk_alloc ?_ _));refine blk_put (cs:=#[.int .i64 ((rd_T128 l0 x8_1).f0),.int .i64 ((rd_T128 l0 x8_1).f1),.int .i64 0,.int .i64 0,.int .i64 0,.string (⟨#[]⟩:ByteArray),.string (⟨#[]⟩:ByteArray),.string (⟨#[]⟩:ByteArray)]) ?_ 2 _ rfl;(with_reducible repeat (first | refine blk_drewN ?_ _ | refine blk_drew ?_ | refine blk_alloc ?_ _));refine blk_put (cs:=#[.int .i64 ((rd_T128 l0 x8_1).f0),.int .i64 0,.int .i64 0,.int .i64 0,.int .i64 0,.string (⟨#[]⟩:ByteArray),.string (⟨#[]⟩:ByteArray),.string (⟨#[]⟩:ByteArray)]) ?_ 1 _ rfl;(with_reducible repeat (first | refine blk_drewN ?_ _ | refine blk_drew ?_ | refine blk_alloc ?_ _));refine blk_put (cs:=#[.int .i64 0,.int .i64 0,.int .i64 0,.int .i64 0,.int .i64 0,.string (⟨#[]⟩:ByteArray),.string (⟨#[]⟩:ByteArray),.string (⟨#[]⟩:ByteArray)]) ?_ 0 _ rfl;exact BK117.out) hb);have n1_:=Aside0.mk (below_step (by repeat ((with_reducible first | exact HB.out | refine below_set ?_ GE117.out))) hb);clear BK117;clear HB;have BK117:=n0_;have HB:=n1_;clear n0_ n1_;(try clear hb);(try clear hb2);(try clear hk);(try clear hi)))
        have n0_:=Aside0.mk (blk_drew BK117.out)
        have n1_:=Aside0.mk (below_drew1 HB.out)
        clear BK117
        clear HB
        have BK117:=n0_
        have HB:=n1_
        clear n0_ n1_
        refine start_ (n:=12) (S:=fun w'=>True) (ds:=[]) #[false,false,false,false,false,false,false,false,false,false,false,false] (by kernel_rfl) rfl rfl trivial (fun hHeld=>?_);refine with_tabW replica_Check.tab7 replica_Check.bits7 (fun HT_ HW_=>?_)
        generalize w25.drew = w26 at BK117 HB hHeld ⊢
        refine pure_ (i:=0) (N:=some 18) (v:=?_) (a':=?_) (bm 1 12) rfl rfl (any_of HT_.out (by kernel_rfl)) (fun _ _ _ h=>h) (Or.inl ⟨by rfl,?_⟩) ?_ ?_
        rotate_left
        ·intro w'
         go_simp
         with_reducible rfl
        rotate_left
        ·simp only [Act.put,sA,sB,sC,i64_w,i32_w]
         rfl
        refine pure_ (i:=1) (N:=some 19) (v:=?_) (a':=?_) (bm 3 12) rfl rfl (any_of HT_.out (by kernel_rfl)) (fun _ _ _ h=>h) (Or.inl ⟨by rfl,?_⟩) ?_ ?_
        rotate_left
        ·intro w'
         go_simp
         with_reducible rfl
        rotate_left
        ·simp only [Act.put,sA,sB,sC,i64_w,i32_w]
         rfl
        refine pure_ (i:=2) (N:=some 20) (v:=?_) (a':=?_) (bm 7 12) rfl rfl (any_of HT_.out (by kernel_rfl)) (fun _ _ _ h=>h) (Or.inl ⟨by rfl,?_⟩) ?_ ?_
        rotate_left
        ·intro w'
         go_simp
         with_reducible rfl
        rotate_left
        ·simp only [Act.put,sA,sB,sC,i64_w,i32_w]
         rfl
        refine pure_ (i:=3) (N:=some 21) (v:=undef) (a':=?_) (bm 15 12) rfl rfl (any_of HT_.out (by kernel_rfl)) (fun _ _ _ h=>h) (Or.inr ⟨by rfl,rfl⟩) ?_ ?_
        rotate_left
        ·simp only [Act.put,sA,sB,sC,i64_w,i32_w]
         rfl
        refine pure_ (i:=4) (N:=some 22) (v:=undef) (a':=?_) (bm 31 12) rfl rfl (any_of HT_.out (by kernel_rfl)) (fun _ _ _ h=>h) (Or.inr ⟨by rfl,rfl⟩) ?_ ?_
        rotate_left
        ·simp only [Act.put,sA,sB,sC,i64_w,i32_w]
         rfl
        refine pure_ (i:=5) (N:=some 23) (v:=undef) (a':=?_) (bm 63 12) rfl rfl (any_of HT_.out (by kernel_rfl)) (fun _ _ _ h=>h) (Or.inr ⟨by rfl,rfl⟩) ?_ ?_
        rotate_left
        ·simp only [Act.put,sA,sB,sC,i64_w,i32_w]
         rfl
        refine pure_ (i:=6) (N:=some 24) (v:=undef) (a':=?_) (bm 127 12) rfl rfl (any_of HT_.out (by kernel_rfl)) (fun _ _ _ h=>h) (Or.inr ⟨by rfl,rfl⟩) ?_ ?_
        rotate_left
        ·simp only [Act.put,sA,sB,sC,i64_w,i32_w]
         rfl
        refine pure_ (i:=7) (N:=some 25) (v:=undef) (a':=?_) (bm 255 12) rfl rfl (any_of HT_.out (by kernel_rfl)) (fun _ _ _ h=>h) (Or.inr ⟨by rfl,rfl⟩) ?_ ?_
        rotate_left
        ·simp only [Act.put,sA,sB,sC,i64_w,i32_w]
         rfl
        refine pure_ (i:=8) (N:=some 26) (v:=undef) (a':=?_) (bm 511 12) rfl rfl (any_of HT_.out (by kernel_rfl)) (fun _ _ _ h=>h) (Or.inr ⟨by rfl,rfl⟩) ?_ ?_
        rotate_left
        ·simp only [Act.put,sA,sB,sC,i64_w,i32_w]
         rfl
        refine pure_ (i:=9) (N:=some 27) (v:=undef) (a':=?_) (bm 1023 12) rfl rfl (any_of HT_.out (by kernel_rfl)) (fun _ _ _ h=>h) (Or.inr ⟨by rfl,rfl⟩) ?_ ?_
        rotate_left
        ·simp only [Act.put,sA,sB,sC,i64_w,i32_w]
         rfl
        refine pure_ (i:=10) (N:=some 28) (v:=undef) (a':=?_) (bm 2047 12) rfl rfl (any_of HT_.out (by kernel_rfl)) (fun _ _ _ h=>h) (Or.inr ⟨by rfl,rfl⟩) ?_ ?_
        rotate_left
        ·simp only [Act.put,sA,sB,sC,i64_w,i32_w]
         rfl
        refine pure_ (i:=11) (N:=some 29) (v:=?_) (a':=?_) (bm 4095 12) rfl rfl (any_of HT_.out (by kernel_rfl)) (fun _ _ _ h=>h) (Or.inl ⟨by rfl,?_⟩) ?_ ?_
        rotate_left
        ·intro w'
         go_simp
         with_reducible rfl
        rotate_left
        ·simp only [Act.put,sA,sB,sC,i64_w,i32_w]
         rfl
        refine done_ (done_of HT_.out (by kernel_rfl)) ?_
        try go_wp2
        go_roundg k1
        case measure=>have:=HK1.out;omega
        case rel=>exact ⟨(wrap64 (x8_1 + 1)),(by rfl),H',⟨by have:=HK1.out;omega⟩,⟨HB.out⟩⟩
      ·rw [if_neg c6] at H
       have c6b0:(t118 == 0) = false:=beq_eq_false_iff_ne.mpr c6
       have c6b1:(t118 != 0) = true:=bne_iff_ne.mpr c6
       obtain rfl:=Option.some.inj H
       have p116:0 ≤ (x8_1:Int):=of_decide_eq_true (by assumption)
       have q116:x8_1 < (l0.length:Int):=of_decide_eq_true (by assumption)
       obtain ⟨ad116,e116,hx116_0,hx116_1,hx116_2,hx116_3,hx116_4,hx116_5,hx116_6,hx116_7⟩:=at_T128 HR0.out x8_1 p116 q116
       cases e116
       replace hx116_0:=(HB.out.cell (World.block_lt_of_cell? w _ hx116_0)).trans hx116_0
       replace hx116_1:=(HB.out.cell (World.block_lt_of_cell? w _ hx116_1)).trans hx116_1
       replace hx116_2:=(HB.out.cell (World.block_lt_of_cell? w _ hx116_2)).trans hx116_2
       replace hx116_3:=(HB.out.cell (World.block_lt_of_cell? w _ hx116_3)).trans hx116_3
       replace hx116_4:=(HB.out.cell (World.block_lt_of_cell? w _ hx116_4)).trans hx116_4
       replace hx116_5:=(HB.out.cell (World.block_lt_of_cell? w _ hx116_5)).trans hx116_5
       replace hx116_6:=(HB.out.cell (World.block_lt_of_cell? w _ hx116_6)).trans hx116_6
       replace hx116_7:=(HB.out.cell (World.block_lt_of_cell? w _ hx116_7)).trans hx116_7
       replace p116:=eq_true p116
       replace q116:=eq_true q116
       go_wp2_with (first | ((with_reducible refine gate_dst (N:=4) rfl ?_);refine box_event ?hg (N:=4) ?hd (cs:=#[.int .i64 0,.int .i64 0,.int .i64 0,.int .i64 0,.int .i64 0,.string (⟨#[]⟩:ByteArray),.string (⟨#[]⟩:ByteArray),.string (⟨#[]⟩:ByteArray)]) (t:=128) ?hr ?_;(case hd=>rfl);(case hg=>rfl);(case hr=>(go_simp;done));intro gb117 hg w27 hbox hb;have n0_:=Aside0.mk (below_step (by with_reducible exact HB.out) hb);have n1_:=Aside0.mk hbox;have n2_:=Aside0.mk ((by rw [hg];exact (below_size (by with_reducible exact HB.out)):w.heap.size ≤ gb117));have n3_:=Aside0.mk ((by rw [hg];exact (below_size (by with_reducible exact HB.out)):w.heap.size ≤ gb117));clear HB;have HB:=n0_;have BK117:=n1_;have GW117:=n2_;have GE117:=n3_;clear n0_ n1_ n2_ n3_;clear hb hbox hg;have hcz28_0:w27.cell? ⟨gb117,0,none⟩ = some (.int .i64 0):=(blk_cell BK117.out 0).trans rfl;have hcz28_1:w27.cell? ⟨gb117,1,none⟩ = some (.int .i64 0):=(blk_cell BK117.out 1).trans rfl;have hcz28_2:w27.cell? ⟨gb117,2,none⟩ = some (.int .i64 0):=(blk_cell BK117.out 2).trans rfl;have hcz28_3:w27.cell? ⟨gb117,3,none⟩ = some (.int .i64 0):=(blk_cell BK117.out 3).trans rfl;have hcz28_4:w27.cell? ⟨gb117,4,none⟩ = some (.int .i64 0):=(blk_cell BK117.out 4).trans rfl;have hcz28_5:w27.cell? ⟨gb117,5,none⟩ = some (.string (⟨#[]⟩:ByteArray)):=(blk_cell BK117.out 5).trans rfl;have hcz28_6:w27.cell? ⟨gb117,6,none⟩ = some (.string (⟨#[]⟩:ByteArray)):=(blk_cell BK117.out 6).trans rfl;have hcz28_7:w27.cell? ⟨gb117,7,none⟩ = some (.string (⟨#[]⟩:ByteArray)):=(blk_cell BK117.out 7).trans rfl;have hfz28_0:=blk_frozen BK117.out 0;have hfz28_1:=blk_frozen BK117.out 1;have hfz28_2:=blk_frozen BK117.out 2;have hfz28_3:=blk_frozen BK117.out 3;have hfz28_4:=blk_frozen BK117.out 4;have hfz28_5:=blk_frozen BK117.out 5;have hfz28_6:=blk_frozen BK117.out 6;have hfz28_7:=blk_frozen BK117.out 7) | ((with_reducible refine gate_callee (f:=106) rfl ?_);refine goesL_ (some 14) rfl rfl Try.func106 (by kernel_rfl) rfl #[.agg #[.int .i64 ((rd_T128 l0 x8_1).f0),.int .i64 ((rd_T128 l0 x8_1).f1),.int .i64 ((rd_T128 l0 x8_1).f2),.int .i64 ((rd_T128 l0 x8_1).f3),.int .i64 ((rd_T128 l0 x8_1).f4),.string ((rd_T128 l0 x8_1).f5),.string ((rd_T128 l0 x8_1).f6),.string ((rd_T128 l0 x8_1).f7)]] rfl (by (try simp only [List.map_toArray,List.map_cons,List.map_nil]);rfl) ?_;(with_reducible refine (replica_op.calls k1 ((rd_T128 l0 x8_1).f0) ((rd_T128 l0 x8_1).f1) ((rd_T128 l0 x8_1).f2) ((rd_T128 l0 x8_1).f3) ((rd_T128 l0 x8_1).f4) ((rd_T128 l0 x8_1).f5) ((rd_T128 l0 x8_1).f6) ((rd_T128 l0 x8_1).f7) t118 _ A5.out).mono ?_);rintro e w29 ⟨rfl,hb⟩;refine ⟨_,rfl,?_⟩;have n0_:=Aside0.mk (blk_below (g:=gb117) (o:=.cells #[.int .i64 ((rd_T128 l0 x8_1).f0),.int .i64 ((rd_T128 l0 x8_1).f1),.int .i64 ((rd_T128 l0 x8_1).f2),.int .i64 ((rd_T128 l0 x8_1).f3),.int .i64 ((rd_T128 l0 x8_1).f4),.string ((rd_T128 l0 x8_1).f5),.string ((rd_T128 l0 x8_1).f6),.string ((rd_T128 l0 x8_1).f7)] 128 (0,0)) (by (with_reducible repeat (first | refine blk_drewN ?_ _ | refine blk_drew ?_ | refine blk_alloc ?_ _));refine blk_put (cs:=#[.int .i64 ((rd_T128 l0 x8_1).f0),.int .i64 ((rd_T128 l0 x8_1).f1),.int .i64 ((rd_T128 l0 x8_1).f2),.int .i64 ((rd_T128 l0 x8_1).f3),.int .i64 ((rd_T128 l0 x8_1).f4),.string ((rd_T128 l0 x8_1).f5),.string ((rd_T128 l0 x8_1).f6),.string (⟨#[]⟩:ByteArray)]) ?_ 7 _ rfl;(with_reducible repeat (first | refine blk_drewN ?_ _ | refine blk_drew ?_ | refine blk_alloc ?_ _));refine blk_put (cs:=#[.int .i64 ((rd_T128 l0 x8_1).f0),.int .i64 ((rd_T128 l0 x8_1).f1),.int .i64 ((rd_T128 l0 x8_1).f2),.int .i64 ((rd_T128 l0 x8_1).f3),.int .i64 ((rd_T128 l0 x8_1).f4),.string ((rd_T128 l0 x8_1).f5),.string (⟨#[]⟩:ByteArray),.string (⟨#[]⟩:ByteArray)]) ?_ 6 _ rfl;(with_reducible repeat (first | refine blk_drewN ?_ _ | refine blk_drew ?_ | refine blk_alloc ?_ _));refine blk_put (cs:=#[.int .i64 ((rd_T128 l0 x8_1).f0),.int .i64 ((rd_T128 l0 x8_1).f1),.int .i64 ((rd_T128 l0 x8_1).f2),.int .i64 ((rd_T128 l0 x8_1).f3),.int .i64 ((rd_T128 l0 x8_1).f4),.string (⟨#[]⟩:ByteArray),.string (⟨#[]⟩:ByteArray),.string (⟨#[]⟩:ByteArray)]) ?_ 5 _ rfl;(with_reducible repeat (first | refine blk_drewN ?_ _ | refine blk_drew ?_ | refine blk_alloc ?_ _));refine blk_put (cs:=#[.int .i64 ((rd_T128 l0 x8_1).f0),.int .i64 ((rd_T128 l0 x8_1).f1),.int .i64 ((rd_T128 l0 x8_1).f2),.int .i64 ((rd_T128 l0 x8_1).f3),.int .i64 0,.string (⟨#[]⟩:ByteArray),.string (⟨#[]⟩:ByteArray),.string (⟨#[]⟩:ByteArray)]) ?_ 4 _ rfl;(with_reducible repeat (first | refine blk_drewN ?_ _ | refine blk_drew ?_ | refine blk_alloc ?_ _));refine blk_put (cs:=#[.int .i64 ((rd_T128 l0 x8_1).f0),.int .i64 ((rd_T128 l0 x8_1).f1),.int .i64 ((rd_T128 l0 x8_1).f2),.int .i64 0,.int .i64 0,.string (⟨#[]⟩:ByteArray),.string (⟨#[]⟩:ByteArray),.string (⟨#[]⟩:ByteArray)]) ?_ 3 _ rfl;(with_reducible repeat (first | refine blk_drewN ?_ _ | refine blk_drew ?_ | refine blk_alloc ?_ _));refine blk_put (cs:=#[.int .i64 ((rd_T128 l0 x8_1).f0),.int .i64 ((rd_T128 l0 x8_1).f1),.int .i64 0,.int .i64 0,.int .i64 0,.string (⟨#[]⟩:ByteArray),.string (⟨#[]⟩:ByteArray),.string (⟨#[]⟩:ByteArray)]) ?_ 2 _ rfl;(with_reducible repeat (first | refine blk_drewN ?_ _ | refine blk_drew ?_ | refine blk_alloc ?_ _));refine blk_put (cs:=#[.int .i64 ((rd_T128 l0 x8_1).f0),.int .i64 0,.int .i64 0,.int .i64 0,.int .i64 0,.string (⟨#[]⟩:ByteArray),.string (⟨#[]⟩:ByteArray),.string (⟨#[]⟩:ByteArray)]) ?_ 1 _ rfl;(with_reducible repeat (first | refine blk_drewN ?_ _ | refine blk_drew ?_ | refine blk_alloc ?_ _));refine blk_put (cs:=#[.int .i64 0,.int .i64 0,.int .i64 0,.int .i64 0,.int .i64 0,.string (⟨#[]⟩:ByteArray),.string (⟨#[]⟩:ByteArray),.string (⟨#[]⟩:ByteArray)]) ?_ 0 _ rfl;exact BK117.out) hb);have n1_:=Aside0.mk (below_step (by repeat ((with_reducible first | exact HB.out | refine below_set ?_ GE117.out))) hb);clear BK117;clear HB;have BK117:=n0_;have HB:=n1_;clear n0_ n1_;(try clear hb);(try clear hb2);(try clear hk);(try clear hi)))
       go_ret
       exact ⟨by rfl,HB.out⟩
     ·rw [if_neg c4] at H
      exact absurd H (by simp)
    ·rw [if_neg c3] at H
     exact absurd H (by simp)
   ·rw [if_neg c2] at H
    have c2b0:decide (x8_1 < (l0.length:Int)) = false:=decide_eq_false c2
    clear c2
    obtain rfl:=Option.some.inj H
    go_wp2
    go_ret
    exact ⟨by rfl,HB.out⟩
end
end Go.Proofs.Ytlcodfjlbhjkbaa.PDelta
end
section
namespace Go.Proofs.Ytlcodfjlbhjkbaa.PDelta
open Go.RowKit Go.Maps Go.Sort Go.Proofs.YtlcodfjlbhjkbaaW.PrintWords Go.Proofs.YtlcodfjlbhjkbaaW.PrintLast Go.Proofs.YtlcodfjlbhjkbaaW.PrintMore
attribute [local go_sem high] Go.Proofs.Ytlcodfjlbhjkbaa.Ord.leq_str Go.Proofs.Ytlcodfjlbhjkbaa.Ord.gtr_str Go.Proofs.Ytlcodfjlbhjkbaa.Ord.geq_str
structure Gr (w w':World):Prop where mk :: (out:∃ q os,w' = grow (w.drewN q) os)
theorem Gr.refl (w:World):Gr w w:=⟨⟨0,#[],by rw [grow_empty];rfl⟩⟩
theorem Gr.trans {a b c:World} (h:Gr a b) (k:Gr b c):Gr a c:=by
 obtain ⟨⟨q,os,rfl⟩⟩:=h
 obtain ⟨⟨q',os',rfl⟩⟩:=k
 refine ⟨⟨q + q',os ++ os',?_⟩⟩
 rw [← grow_grow]
 show grow (grow ((a.drewN q).drewN q') os) os' = _
 rw [World.drewN_drewN]
theorem Gr.alloc {a b:World} (h:Gr a b) (o:Obj):Gr a (b.alloc o):=h.trans ⟨⟨0,#[o],by rw [alloc_eq_grow];rfl⟩⟩
theorem Gr.drawn {a b c:World} (h:Gr a b) (k:Drawn0 b c):Gr a c:=by
 obtain ⟨⟨n,rfl⟩⟩:=k
 exact h.trans ⟨⟨n,#[],by rw [grow_empty]⟩⟩
theorem Gr.drew {a b:World} (h:Gr a b):Gr a b.drew:=h.trans ⟨⟨1,#[],by rw [grow_empty];rfl⟩⟩
def cmpS (a b:ByteArray):Int:=if Op.bytesLess a.toList b.toList = true then -1 else if Op.bytesLess b.toList a.toList = true then 1 else 0
def cmpI (a b:Int):Int:=if a < b then -1 else if b < a then 1 else 0
theorem isnan_calls (a:ByteArray) (w:World):Calls Try.prog 143 #[.string a] w fun e w'=>e = .returned (.bool false) ∧ w' = w:=by
 go_enter Try.func143,Try.ntmps143
 go_wp2
 go_ret
 exact ⟨by simp,rfl⟩
set_option maxRecDepth 100000 in
theorem cmps_calls (a b:ByteArray) (w:World):Calls Try.prog 112 #[.string a,.string b] w fun e w'=>e = .returned (.int .i64 (cmpS a b)) ∧ w' = w:=by
 unfold cmpS
 cases h1:Op.bytesLess a.toList b.toList with
 | true =>
  go_enter Try.func112,Try.ntmps112
  go_wp2_with (go_at_call 143;go_loud (refine (isnan_calls _ _).mono ?_;rintro e w' ⟨rfl,rfl⟩))
  go_ret
  exact ⟨rfl,rfl⟩
 | false =>
  cases h2:Op.bytesLess b.toList a.toList with
  | true =>
   go_enter Try.func112,Try.ntmps112
   go_wp2_with (go_at_call 143;go_loud (refine (isnan_calls _ _).mono ?_;rintro e w' ⟨rfl,rfl⟩))
   go_ret
   exact ⟨rfl,rfl⟩
  | false =>
   go_enter Try.func112,Try.ntmps112
   go_wp2_with (go_at_call 143;go_loud (refine (isnan_calls _ _).mono ?_;rintro e w' ⟨rfl,rfl⟩))
   go_ret
   exact ⟨rfl,rfl⟩
theorem cmpi_f (a b:Int):cmp_Compare_int.f a b = some (cmpI a b):=by
 simp only [cmp_Compare_int.f,cmp_isNaN_int.f,Option.bind_some,bne_self_eq_false,Bool.false_eq_true,if_false,cmpI]
 by_cases h1:a < b
 ·rw [if_pos h1,if_pos h1]
 ·rw [if_neg h1,if_neg h1]
  by_cases h2:b < a
  ·rw [if_pos h2,if_pos (show a > b from h2)]
  ·rw [if_neg h2,if_neg (show ¬ a > b from h2)]
def orI (a b:Int):Int:=if a = 0 then b else a
theorem or_f (a b:Int):cmp_Or_int.f 3 [a,b] = some (orI a b):=by
 have h0:rd [a,b] 0 = a:=rfl
 have h1:rd [a,b] 1 = b:=rfl
 have e1:wrap64 (0 + 1) = 1:=by unfold wrap64;omega
 have e2:wrap64 (1 + 1) = 2:=by unfold wrap64;omega
 unfold cmp_Or_int.f orI
 simp only [cmp_Or_int.l0,List.length_cons,List.length_nil,h0,h1,e1,e2]
 by_cases ha:a = 0
 ·by_cases hb:b = 0
  ·simp [ha,hb]
  ·simp [ha,hb]
 ·simp [ha]
structure It4 where
 i:Int
 p:Int
 s:ByteArray
 A:Option Addr
 n:Nat
 c:Nat
instance:Inhabited It4:=⟨⟨0,0,⟨#[]⟩,none,0,0⟩⟩
def enc4 (x:It4):List Value:=[.int .i64 x.i,.int .i64 x.p,.string x.s,.slice x.A x.n x.c]
def cmpP (x y:It4):Int:=orI (cmpS x.s y.s) (cmpI x.i y.i)
def cmpN (x y:It4):Int:=cmpI x.i y.i
set_option maxRecDepth 100000 in
theorem cmpn_calls (x y:It4) (w:World):Calls Try.prog 114 #[.agg (enc4 x).toArray,.agg (enc4 y).toArray] w fun e w'=>e = .returned (.int .i64 (cmpN x y)) ∧ Gr w w':=by
 unfold enc4 cmpN
 go_enter Try.func114,Try.ntmps114
 go_wp2_with (go_at_call 113;(with_reducible refine (cmp_Compare_int.calls x.i y.i _ _ (cmpi_f _ _)).mono ?_);rintro e3 w3 ⟨rfl,hd⟩)
 go_ret
 exact ⟨rfl,((Gr.refl _).alloc _ |>.alloc _).drawn hd⟩
end Go.Proofs.Ytlcodfjlbhjkbaa.PDelta
end

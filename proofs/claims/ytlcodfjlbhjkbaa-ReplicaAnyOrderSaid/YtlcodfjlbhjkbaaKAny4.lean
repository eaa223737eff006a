/- Parts of the proof of Any: nothing is claimed here by itself. -/
import Derived.Test.YtlcodfjlbhjkbaaKAny3
import Derived.StillTailTactics
set_option linter.unusedVariables false
set_option linter.unusedSimpArgs false
section
namespace Go.Proofs.Ytlcodfjlbhjkbaa.PDelta
open Go.RowKit Go.Proofs.YtlcodfjlbhjkbaaW.PrintWords Go.Proofs.YtlcodfjlbhjkbaaW.PrintLast Go.Proofs.YtlcodfjlbhjkbaaW.PrintMore
attribute [local go_sem] max2_int min2_int max_two min_two max_three min_three max_four min_four
attribute [local go_sem high] Go.Proofs.Ytlcodfjlbhjkbaa.Ord.leq_str Go.Proofs.Ytlcodfjlbhjkbaa.Ord.gtr_str Go.Proofs.Ytlcodfjlbhjkbaa.Ord.geq_str
noncomputable section
attribute [local go_sem high] eqA91 eqA128
def replica_Join.f (k:Nat) (l0:List (S128)) (l1:List (S128)):Option ((List (S128)) × Int):=(replica_Check.f k l0).bind fun t170=>(if t170 = 0 then ((replica_Check.f k l1).bind fun t171=>(if t171 = 0 then ((replica_Both.f k l0 l1).bind fun bt172=>(some (bt172.1,bt172.2))) else (some (([]:List (S128)),t171)))) else (some (([]:List (S128)),t170)))
set_option maxHeartbeats 8000000 in
set_option maxRecDepth 100000 in
theorem replica_Join.calls (k:Nat) (A0:Option Addr) (c0:Nat) (l0:List (S128)) (A1:Option Addr) (c1:Nat) (l1:List (S128)) (r1:List (S128)) (r2:Int) (w:World) (hr0:Kd.C k128 w A0 l0.length l0) (hc0:l0.length ≤ c0) (hr1:Kd.C k128 w A1 l1.length l1) (hc1:l1.length ≤ c1) (h:replica_Join.f k l0 l1 = some (r1,r2)) :
 Calls Try.prog 36 #[.slice A0 l0.length c0,.slice A1 l1.length c1] w fun e w'=>∃ v0_:Value,e = .returned (.tuple #[v0_,.int .i64 r2]) ∧ Kd.R k128 128 w' w.heap.size (fun _=>True) v0_ r1 ∧ Below w.heap.size w w':=by
 have HR0:=Aside0.mk hr0
 have HC0:=Aside0.mk hc0
 clear hr0 hc0
 have HR1:=Aside0.mk hr1
 have HC1:=Aside0.mk hc1
 clear hr1 hc1
 have HB:=Aside0.mk (Below.refl w.heap.size w)
 have H:((replica_Check.f k l0).bind fun t170=>(if t170 = 0 then ((replica_Check.f k l1).bind fun t171=>(if t171 = 0 then ((replica_Both.f k l0 l1).bind fun bt172=>(some (bt172.1,bt172.2))) else (some (([]:List (S128)),t171)))) else (some (([]:List (S128)),t170)))) = some (r1,r2):=h
 clear h
 replace H:=Option.bind_eq_some_iff.mp H
 obtain ⟨t170,A30,H⟩:=H
 replace H:(if t170 = 0 then ((replica_Check.f k l1).bind fun t171=>(if t171 = 0 then ((replica_Both.f k l0 l1).bind fun bt172=>(some (bt172.1,bt172.2))) else (some (([]:List (S128)),t171)))) else (some (([]:List (S128)),t170))) = some (r1,r2):=H
 have A3:=Aside0.mk A30
 clear A30
 by_cases c4:t170 = 0
 ·rw [if_pos c4] at H
  have c4b0:(t170 == 0) = true:=beq_iff_eq.mpr c4
  have c4b1:(t170 != 0) = false:=bne_eq_false_iff_eq.mpr c4
  clear c4
  replace H:=Option.bind_eq_some_iff.mp H
  obtain ⟨t171,A50,H⟩:=H
  replace H:(if t171 = 0 then ((replica_Both.f k l0 l1).bind fun bt172=>(some (bt172.1,bt172.2))) else (some (([]:List (S128)),t171))) = some (r1,r2):=H
  have A5:=Aside0.mk A50
  clear A50
  by_cases c6:t171 = 0
  ·rw [if_pos c6] at H
   have c6b0:(t171 == 0) = true:=beq_iff_eq.mpr c6
   have c6b1:(t171 != 0) = false:=bne_eq_false_iff_eq.mpr c6
   clear c6
   replace H:=Option.bind_eq_some_iff.mp H
   obtain ⟨⟨t172,t175⟩,A70,H⟩:=H
   replace H:(some (t172,t175)) = some (r1,r2):=H
   have A7:=Aside0.mk A70
   clear A70
   simp only [Option.some.injEq,Prod.mk.injEq] at H
   obtain ⟨rfl,rfl⟩:=H
   go_enter Try.func36,Try.ntmps36
   go_wp2_with (first | ((with_reducible refine gate_callee (f:=72) rfl ?_);refine goesL_ (some 9) rfl rfl Try.func72 (by kernel_rfl) rfl #[.slice A0 l0.length c0] rfl (by (try simp only [List.map_toArray,List.map_cons,List.map_nil]);rfl) ?_;(with_reducible refine (replica_Check.calls k _ _ l0 t170 _ ?side1 ?side2 A3.out).mono ?_);(case side1=>repeat (exact HR0.out));(case side2=>exact HC0.out);rintro e w8 ⟨rfl,hb⟩;refine ⟨_,rfl,?_⟩;replace HB:=Aside0.mk (below_step (by with_reducible exact HB.out) hb);(try clear hb);(try clear hb2);(try clear hk);(try clear hi)) | ((with_reducible refine gate_callee (f:=72) rfl ?_);refine goesL_ (some 14) rfl rfl Try.func72 (by kernel_rfl) rfl #[.slice A1 l1.length c1] rfl (by (try simp only [List.map_toArray,List.map_cons,List.map_nil]);rfl) ?_;(with_reducible refine (replica_Check.calls k _ _ l1 t171 _ ?side1 ?side2 A5.out).mono ?_);(case side1=>repeat (exact (Kd.C_below HR1.out HB.out)));(case side2=>exact HC1.out);rintro e w9 ⟨rfl,hb⟩;refine ⟨_,rfl,?_⟩;replace HB:=Aside0.mk (below_step (by with_reducible exact HB.out) hb);(try clear hb);(try clear hb2);(try clear hk);(try clear hi)) | ((with_reducible refine gate_callee (f:=73) rfl ?_);refine goesL_ (some 20) rfl rfl Try.func73 (by kernel_rfl) rfl #[.slice A0 l0.length c0,.slice A1 l1.length c1] rfl (by (try simp only [List.map_toArray,List.map_cons,List.map_nil]);rfl) ?_;(with_reducible refine (replica_Both.calls k (fun k_=>k_ < w.heap.size) _ _ l0 (fun k_=>k_ < w.heap.size) _ _ l1 t172 t175 _ ?side1 ?side2 A7.out).mono ?_);(case side1=>exact Kd.V_mk HC0.out (Kd.F_below (Kd.C_F k128_heap HR0.out) (by with_reducible exact HB.out)));(case side2=>exact Kd.V_mk HC1.out (Kd.F_below (Kd.C_F k128_heap HR1.out) (by with_reducible exact HB.out)));rintro e w10 ⟨v173,rfl,ho0,hb⟩;refine ⟨_,rfl,?_⟩;have n0_:=Aside0.mk (Kd.R_lower (Kd.R_mono (ok':=fun k_=>True) ho0 (fun _ hk_=>trivial)) (below_size (by with_reducible exact HB.out)));have n1_:=Aside0.mk (below_step (by with_reducible exact HB.out) hb);clear HB;have HO174:=n0_;have HB:=n1_;clear n0_ n1_;(try clear hb);(try clear hb2);(try clear hk);(try clear hi);(try clear ho0)))
   go_ret2
   exact ⟨_,by rfl,by exact HO174.out,HB.out⟩
  ·rw [if_neg c6] at H
   have c6b0:(t171 == 0) = false:=beq_eq_false_iff_ne.mpr c6
   have c6b1:(t171 != 0) = true:=bne_iff_ne.mpr c6
   simp only [Option.some.injEq,Prod.mk.injEq] at H
   obtain ⟨rfl,rfl⟩:=H
   go_enter Try.func36,Try.ntmps36
   go_wp2_with (first | ((with_reducible refine gate_callee (f:=72) rfl ?_);refine goesL_ (some 9) rfl rfl Try.func72 (by kernel_rfl) rfl #[.slice A0 l0.length c0] rfl (by (try simp only [List.map_toArray,List.map_cons,List.map_nil]);rfl) ?_;(with_reducible refine (replica_Check.calls k _ _ l0 t170 _ ?side1 ?side2 A3.out).mono ?_);(case side1=>repeat (exact HR0.out));(case side2=>exact HC0.out);rintro e w11 ⟨rfl,hb⟩;refine ⟨_,rfl,?_⟩;replace HB:=Aside0.mk (below_step (by with_reducible exact HB.out) hb);(try clear hb);(try clear hb2);(try clear hk);(try clear hi)) | ((with_reducible refine gate_callee (f:=72) rfl ?_);refine goesL_ (some 14) rfl rfl Try.func72 (by kernel_rfl) rfl #[.slice A1 l1.length c1] rfl (by (try simp only [List.map_toArray,List.map_cons,List.map_nil]);rfl) ?_;(with_reducible refine (replica_Check.calls k _ _ l1 t171 _ ?side1 ?side2 A5.out).mono ?_);(case side1=>repeat (exact (Kd.C_below HR1.out HB.out)));(case side2=>exact HC1.out);rintro e w12 ⟨rfl,hb⟩;refine ⟨_,rfl,?_⟩;replace HB:=Aside0.mk (below_step (by with_reducible exact HB.out) hb);(try clear hb);(try clear hb2);(try clear hk);(try clear hi)))
   go_ret2
   exact ⟨_,by rfl,by exact Kd.R_nil _ _ _ _ _,HB.out⟩
 ·rw [if_neg c4] at H
  have c4b0:(t170 == 0) = false:=beq_eq_false_iff_ne.mpr c4
  have c4b1:(t170 != 0) = true:=bne_iff_ne.mpr c4
  simp only [Option.some.injEq,Prod.mk.injEq] at H
  obtain ⟨rfl,rfl⟩:=H
  go_enter Try.func36,Try.ntmps36
  go_wp2_with (((with_reducible refine gate_callee (f:=72) rfl ?_);refine goesL_ (some 9) rfl rfl Try.func72 (by kernel_rfl) rfl #[.slice A0 l0.length c0] rfl (by (try simp only [List.map_toArray,List.map_cons,List.map_nil]);rfl) ?_;(with_reducible refine (replica_Check.calls k _ _ l0 t170 _ ?side1 ?side2 A3.out).mono ?_);(case side1=>repeat (exact HR0.out));(case side2=>exact HC0.out);rintro e w13 ⟨rfl,hb⟩;refine ⟨_,rfl,?_⟩;replace HB:=Aside0.mk (below_step (by with_reducible exact HB.out) hb);(try clear hb);(try clear hb2);(try clear hk);(try clear hi)))
  go_ret2
  exact ⟨_,by rfl,by exact Kd.R_nil _ _ _ _ _,HB.out⟩
def chanceryref1_SameOps.l0:Nat → List (S128) → List (S128) → Int → Int → Option (Bool)
 | 0,_,_,_,_=>none
 | k + 1,x0,x1,x12,x13=>if x13 < x12 then (if 0 ≤ x13 then (if x13 < (x0.length:Int) then (if x13 < (x1.length:Int) then (if (!(((rd_T128 x0 x13).f0) == ((rd_T128 x1 x13).f0)) || (!(((rd_T128 x0 x13).f1) == ((rd_T128 x1 x13).f1)) || (!(((rd_T128 x0 x13).f2) == ((rd_T128 x1 x13).f2)) || (!(((rd_T128 x0 x13).f3) == ((rd_T128 x1 x13).f3)) || (!(((rd_T128 x0 x13).f4) == ((rd_T128 x1 x13).f4)) || (!((((rd_T128 x0 x13).f5).toList) == (((rd_T128 x1 x13).f5).toList)) || (!((((rd_T128 x0 x13).f6).toList) == (((rd_T128 x1 x13).f6).toList)) || (!((((rd_T128 x0 x13).f7).toList) == (((rd_T128 x1 x13).f7).toList)))))))))) = true then (some false) else (chanceryref1_SameOps.l0 k x0 x1 x12 (wrap64 (x13 + 1)))) else (none)) else (none)) else (none)) else (some true)
def chanceryref1_SameOps.f (k:Nat) (l0:List (S128)) (l1:List (S128)):Option (Bool):=if (l0.length:Int) = (l1.length:Int) then (chanceryref1_SameOps.l0 k l0 l1 (l0.length:Int) 0) else (some false)
set_option maxHeartbeats 8000000 in
set_option maxRecDepth 100000 in
theorem chanceryref1_SameOps.calls (k:Nat) (A0:Option Addr) (c0:Nat) (l0:List (S128)) (A1:Option Addr) (c1:Nat) (l1:List (S128)) (r:Bool) (w:World) (hr0:Kd.C k128 w A0 l0.length l0) (hc0:l0.length ≤ c0) (hr1:Kd.C k128 w A1 l1.length l1) (hc1:l1.length ≤ c1) (h:chanceryref1_SameOps.f k l0 l1 = some r) :
 Calls Try.prog 38 #[.slice A0 l0.length c0,.slice A1 l1.length c1] w fun e w'=>e = .returned (.bool r) ∧ Drawn0 w w':=by
 have hu128:=Try.underlying128
 have HR0:=Aside0.mk hr0
 have HC0:=Aside0.mk hc0
 clear hr0 hc0
 have HR1:=Aside0.mk hr1
 have HC1:=Aside0.mk hc1
 clear hr1 hc1
 have H:(if (l0.length:Int) = (l1.length:Int) then (chanceryref1_SameOps.l0 k l0 l1 (l0.length:Int) 0) else (some false)) = some r:=h
 clear h
 by_cases c3:(l0.length:Int) = (l1.length:Int)
 ·rw [if_pos c3] at H
  have c3b0:((l0.length:Int) == (l1.length:Int)) = true:=beq_iff_eq.mpr c3
  have c3b1:((l0.length:Int) != (l1.length:Int)) = false:=bne_eq_false_iff_eq.mpr c3
  have c3b2:(l0.length == l1.length) = true:=by (simp at c3 ⊢;omega)
  clear c3
  have H':=Aside0.mk H
  clear H
  go_enter Try.func38,Try.ntmps38
  go_wp2
  repeat (go_quiet (fail);try go_wp2)
  go_loopg [13] k (fun kq v13 w'=>∃ (x13_1:Int),v13 = .int .i64 x13_1 ∧ Aside0 (chanceryref1_SameOps.l0 kq l0 l1 (l0.length:Int) x13_1 = some r) ∧ Aside0 (kq ≤ k) ∧ Drawn0 w w')
  case atStart=>exact ⟨(0),(by rfl),H',⟨Nat.le_refl _⟩,by repeat (exact Drawn0.refl _)⟩
  case round =>
   clear H'
   try clear c3b0
   try clear c3b1
   try clear c3b2
   obtain ⟨x13_1,rfl,HA,HK1,⟨m1,rfl⟩⟩:=hrel
   cases gk with
   | zero=>exact absurd HA.out (by simp [chanceryref1_SameOps.l0])
   | succ k1 =>
    have H:=HA.out
    clear HA
    simp only [chanceryref1_SameOps.l0] at H
    by_cases c4:x13_1 < (l0.length:Int)
    ·rw [if_pos c4] at H
     have c4b0:decide (x13_1 < (l0.length:Int)) = true:=decide_eq_true c4
     clear c4
     by_cases c5:0 ≤ x13_1
     ·rw [if_pos c5] at H
      have c5b0:decide (0 ≤ x13_1) = true:=decide_eq_true c5
      clear c5
      by_cases c6:x13_1 < (l0.length:Int)
      ·rw [if_pos c6] at H
       have c6b0:decide (x13_1 < (l0.length:Int)) = true:=decide_eq_true c6
       clear c6
       by_cases c7:x13_1 < (l1.length:Int)
       ·rw [if_pos c7] at H
        have c7b0:decide (x13_1 < (l1.length:Int)) = true:=decide_eq_true c7
        clear c7
        by_cases c8:(!(((rd_T128 l0 x13_1).f0) == ((rd_T128 l1 x13_1).f0)) || (!(((rd_T128 l0 x13_1).f1) == ((rd_T128 l1 x13_1).f1)) || (!(((rd_T128 l0 x13_1).f2) == ((rd_T128 l1 x13_1).f2)) || (!(((rd_T128 l0 x13_1).f3) == ((rd_T128 l1 x13_1).f3)) || (!(((rd_T128 l0 x13_1).f4) == ((rd_T128 l1 x13_1).f4)) || (!((((rd_T128 l0 x13_1).f5).toList) == (((rd_T128 l1 x13_1).f5).toList)) || (!((((rd_T128 l0 x13_1).f6).toList) == (((rd_T128 l1 x13_1).f6).toList)) || (!((((rd_T128 l0 x13_1).f7).toList) == (((rd_T128 l1 x13_1).f7).toList)))))))))) = true
        ·rw [if_pos c8] at H
         have c8b0:(!(((rd_T128 l0 x13_1).f0) == ((rd_T128 l1 x13_1).f0)) || (!(((rd_T128 l0 x13_1).f1) == ((rd_T128 l1 x13_1).f1)) || (!(((rd_T128 l0 x13_1).f2) == ((rd_T128 l1 x13_1).f2)) || (!(((rd_T128 l0 x13_1).f3) == ((rd_T128 l1 x13_1).f3)) || (!(((rd_T128 l0 x13_1).f4) == ((rd_T128 l1 x13_1).f4)) || (!((((rd_T128 l0 x13_1).f5).toList) == (((rd_T128 l1 x13_1).f5).toList)) || (!((((rd_T128 l0 x13_1).f6).toList) == (((rd_T128 l1 x13_1).f6).toList)) || (!((((rd_T128 l0 x13_1).f7).toList) == (((rd_T128 l1 x13_1).f7).toList)))))))))) = true:=c8
         clear c8
         obtain rfl:=Option.some.inj H
         have p176:0 ≤ (x13_1:Int):=of_decide_eq_true (by assumption)
         have q176:x13_1 < (l0.length:Int):=of_decide_eq_true (by assumption)
         obtain ⟨ad176,e176,hx176_0,hx176_1,hx176_2,hx176_3,hx176_4,hx176_5,hx176_6,hx176_7⟩:=at_T128 HR0.out x13_1 p176 q176
         cases e176
         replace p176:=eq_true p176
         replace q176:=eq_true q176
         have p177:0 ≤ (x13_1:Int):=of_decide_eq_true (by assumption)
         have q177:x13_1 < (l1.length:Int):=of_decide_eq_true (by assumption)
         obtain ⟨ad177,e177,hx177_0,hx177_1,hx177_2,hx177_3,hx177_4,hx177_5,hx177_6,hx177_7⟩:=at_T128 HR1.out x13_1 p177 q177
         cases e177
         replace p177:=eq_true p177
         replace q177:=eq_true q177
         go_wp2
         repeat (go_quiet (fail);try go_wp2)
         go_ret
         exact ⟨by rfl,by repeat (first | exact Drawn0.refl _ | apply Drawn0.step)⟩
        ·rw [if_neg c8] at H
         have c8b0:(!(((rd_T128 l0 x13_1).f0) == ((rd_T128 l1 x13_1).f0)) || (!(((rd_T128 l0 x13_1).f1) == ((rd_T128 l1 x13_1).f1)) || (!(((rd_T128 l0 x13_1).f2) == ((rd_T128 l1 x13_1).f2)) || (!(((rd_T128 l0 x13_1).f3) == ((rd_T128 l1 x13_1).f3)) || (!(((rd_T128 l0 x13_1).f4) == ((rd_T128 l1 x13_1).f4)) || (!((((rd_T128 l0 x13_1).f5).toList) == (((rd_T128 l1 x13_1).f5).toList)) || (!((((rd_T128 l0 x13_1).f6).toList) == (((rd_T128 l1 x13_1).f6).toList)) || (!((((rd_T128 l0 x13_1).f7).toList) == (((rd_T128 l1 x13_1).f7).toList)))))))))) = false:=by simpa using c8
         clear c8
         have H':=Aside0.mk H
         clear H
         have p176:0 ≤ (x13_1:Int):=of_decide_eq_true (by assumption)
         have q176:x13_1 < (l0.length:Int):=of_decide_eq_true (by assumption)
         obtain ⟨ad176,e176,hx176_0,hx176_1,hx176_2,hx176_3,hx176_4,hx176_5,hx176_6,hx176_7⟩:=at_T128 HR0.out x13_1 p176 q176
         cases e176
         replace p176:=eq_true p176
         replace q176:=eq_true q176
         have p177:0 ≤ (x13_1:Int):=of_decide_eq_true (by assumption)
         have q177:x13_1 < (l1.length:Int):=of_decide_eq_true (by assumption)
         obtain ⟨ad177,e177,hx177_0,hx177_1,hx177_2,hx177_3,hx177_4,hx177_5,hx177_6,hx177_7⟩:=at_T128 HR1.out x13_1 p177 q177
         cases e177
         replace p177:=eq_true p177
         replace q177:=eq_true q177
         go_wp2
         repeat (go_quiet (fail);try go_wp2)
         go_roundg k1
         case measure=>have:=HK1.out;omega
         case rel=>exact ⟨(wrap64 (x13_1 + 1)),(by rfl),H',⟨by have:=HK1.out;omega⟩,by repeat (first | exact Drawn0.refl _ | apply Drawn0.step)⟩
       ·rw [if_neg c7] at H
        exact absurd H (by simp)
      ·rw [if_neg c6] at H
       exact absurd H (by simp)
     ·rw [if_neg c5] at H
      exact absurd H (by simp)
    ·rw [if_neg c4] at H
     have c4b0:decide (x13_1 < (l0.length:Int)) = false:=decide_eq_false c4
     clear c4
     obtain rfl:=Option.some.inj H
     go_wp2
     repeat (go_quiet (fail);try go_wp2)
     go_ret
     exact ⟨by rfl,by repeat (first | exact Drawn0.refl _ | apply Drawn0.step)⟩
 ·rw [if_neg c3] at H
  have c3b0:((l0.length:Int) == (l1.length:Int)) = false:=beq_eq_false_iff_ne.mpr c3
  have c3b1:((l0.length:Int) != (l1.length:Int)) = true:=bne_iff_ne.mpr c3
  have c3b2:(l0.length == l1.length) = false:=by (simp at c3 ⊢;omega)
  obtain rfl:=Option.some.inj H
  go_enter Try.func38,Try.ntmps38
  go_wp2
  repeat (go_quiet (fail);try go_wp2)
  go_ret
  exact ⟨by rfl,by repeat (exact Drawn0.refl _)⟩
def chanceryref1_SameItem.f (k:Nat) (a0_0:Int) (a0_1:Int) (a0_2:ByteArray) (l0_3:List (S91)) (a1_0:Int) (a1_1:Int) (a1_2:ByteArray) (l1_3:List (S91)):Option (Bool):=if a0_0 = a1_0 then (if a0_1 = a1_1 then (if a0_2.toList = a1_2.toList then ((chanceryref1_SameAttrs.f k l0_3 l1_3).bind fun t182=>(some t182)) else (some false)) else (some false)) else (some false)
set_option maxHeartbeats 8000000 in
set_option maxRecDepth 100000 in
theorem chanceryref1_SameItem.calls (k:Nat) (a0_0:Int) (a0_1:Int) (a0_2:ByteArray) (A0_3:Option Addr) (c0_3:Nat) (l0_3:List (S91)) (a1_0:Int) (a1_1:Int) (a1_2:ByteArray) (A1_3:Option Addr) (c1_3:Nat) (l1_3:List (S91)) (r:Bool) (w:World) (hr0_3:Kd.C k91 w A0_3 l0_3.length l0_3) (hc0_3:l0_3.length ≤ c0_3) (hr1_3:Kd.C k91 w A1_3 l1_3.length l1_3) (hc1_3:l1_3.length ≤ c1_3) (h:chanceryref1_SameItem.f k a0_0 a0_1 a0_2 l0_3 a1_0 a1_1 a1_2 l1_3 = some r) :
 Calls Try.prog 75 #[.agg #[.int .i64 a0_0,.int .i64 a0_1,.string a0_2,.slice A0_3 l0_3.length c0_3],.agg #[.int .i64 a1_0,.int .i64 a1_1,.string a1_2,.slice A1_3 l1_3.length c1_3]] w fun e w'=>e = .returned (.bool r) ∧ Below w.heap.size w w':=by
 have hu87:=Try.underlying87
 have HR0_3:=Aside0.mk hr0_3
 have HC0_3:=Aside0.mk hc0_3
 clear hr0_3 hc0_3
 have HR1_3:=Aside0.mk hr1_3
 have HC1_3:=Aside0.mk hc1_3
 clear hr1_3 hc1_3
 have HB:=Aside0.mk (Below.refl w.heap.size w)
 have H:(if a0_0 = a1_0 then (if a0_1 = a1_1 then (if a0_2.toList = a1_2.toList then ((chanceryref1_SameAttrs.f k l0_3 l1_3).bind fun t182=>(some t182)) else (some false)) else (some false)) else (some false)) = some r:=h
 clear h
 by_cases c3:a0_0 = a1_0
 ·rw [if_pos c3] at H
  have c3b0:(a0_0 == a1_0) = true:=beq_iff_eq.mpr c3
  have c3b1:(a0_0 != a1_0) = false:=bne_eq_false_iff_eq.mpr c3
  clear c3
  by_cases c4:a0_1 = a1_1
  ·rw [if_pos c4] at H
   have c4b0:(a0_1 == a1_1) = true:=beq_iff_eq.mpr c4
   have c4b1:(a0_1 != a1_1) = false:=bne_eq_false_iff_eq.mpr c4
   clear c4
   by_cases c5:a0_2.toList = a1_2.toList
   ·rw [if_pos c5] at H
    have c5b0:(a0_2.toList == a1_2.toList) = true:=beq_iff_eq.mpr c5
    have c5b1:(a0_2.toList != a1_2.toList) = false:=bne_eq_false_iff_eq.mpr c5
    clear c5
    replace H:=Option.bind_eq_some_iff.mp H
    obtain ⟨t182,A60,H⟩:=H
    replace H:(some t182) = some r:=H
    have A6:=Aside0.mk A60
    clear A60
    obtain rfl:=Option.some.inj H
    go_enter Try.func75,Try.ntmps75
    go_wp2_with (first | ((with_reducible refine gate_dst (N:=2) rfl ?_);refine box_event ?hg (N:=2) ?hd (cs:=#[.int .i64 a0_0,.int .i64 a0_1,.string a0_2,.slice A0_3 l0_3.length c0_3]) (t:=87) ?hr ?_;(case hd=>rfl);(case hg=>rfl);(case hr=>(go_simp;done));intro gb180 hg w7 hbox hb;have n0_:=Aside0.mk (below_step (by with_reducible exact HB.out) hb);have n1_:=Aside0.mk hbox;have n2_:=Aside0.mk ((by rw [hg];exact (below_size (by with_reducible exact HB.out)):w.heap.size ≤ gb180));have n3_:=Aside0.mk ((by rw [hg];exact (below_size (by with_reducible exact HB.out)):w.heap.size ≤ gb180));clear HB;have HB:=n0_;have BK180:=n1_;have GW180:=n2_;have GE180:=n3_;clear n0_ n1_ n2_ n3_;clear hb hbox hg) | ((with_reducible refine gate_dst (N:=3) rfl ?_);refine box_event ?hg (N:=3) ?hd (cs:=#[.int .i64 a1_0,.int .i64 a1_1,.string a1_2,.slice A1_3 l1_3.length c1_3]) (t:=87) ?hr ?_;(case hd=>rfl);(case hg=>rfl);(case hr=>(go_simp;done));intro gb181 hg w8 hbox hb;have n0_:=Aside0.mk (blk_below BK180.out hb);have n1_:=Aside0.mk (below_step HB.out hb);have n2_:=Aside0.mk hbox;have n3_:=Aside0.mk ((by rw [hg];exact (below_size HB.out):w.heap.size ≤ gb181));have n4_:=Aside0.mk ((by rw [hg];exact (below_size HB.out):w.heap.size ≤ gb181));have n5_:=Aside0.mk ((by rw [hg];exact Nat.ne_of_lt (blk_lt BK180.out):gb180 ≠ gb181));have n6_:=Aside0.mk ((by rw [hg];exact Nat.ne_of_gt (blk_lt BK180.out):gb181 ≠ gb180));clear BK180;clear HB;have BK180:=n0_;have HB:=n1_;have BK181:=n2_;have GW181:=n3_;have GE181:=n4_;have NB180_181:=n5_;have NB181_180:=n6_;clear n0_ n1_ n2_ n3_ n4_ n5_ n6_;clear hb hbox hg;have hnb9:=NB180_181.out;have hnc9:=NB181_180.out;have hcz10_0:w8.cell? ⟨gb180,0,none⟩ = some (.int .i64 a0_0):=(blk_cell BK180.out 0).trans rfl;have hcz10_1:w8.cell? ⟨gb180,1,none⟩ = some (.int .i64 a0_1):=(blk_cell BK180.out 1).trans rfl;have hcz10_2:w8.cell? ⟨gb180,2,none⟩ = some (.string a0_2):=(blk_cell BK180.out 2).trans rfl;have hcz10_3:w8.cell? ⟨gb180,3,none⟩ = some (.slice A0_3 l0_3.length c0_3):=(blk_cell BK180.out 3).trans rfl;have hfz10_0:=blk_frozen BK180.out 0;have hfz10_1:=blk_frozen BK180.out 1;have hfz10_2:=blk_frozen BK180.out 2;have hfz10_3:=blk_frozen BK180.out 3;have hcz11_0:w8.cell? ⟨gb181,0,none⟩ = some (.int .i64 a1_0):=(blk_cell BK181.out 0).trans rfl;have hcz11_1:w8.cell? ⟨gb181,1,none⟩ = some (.int .i64 a1_1):=(blk_cell BK181.out 1).trans rfl;have hcz11_2:w8.cell? ⟨gb181,2,none⟩ = some (.string a1_2):=(blk_cell BK181.out 2).trans rfl;have hcz11_3:w8.cell? ⟨gb181,3,none⟩ = some (.slice A1_3 l1_3.length c1_3):=(blk_cell BK181.out 3).trans rfl;have hfz11_0:=blk_frozen BK181.out 0;have hfz11_1:=blk_frozen BK181.out 1;have hfz11_2:=blk_frozen BK181.out 2;have hfz11_3:=blk_frozen BK181.out 3) | (go_at_call 65;(with_reducible refine (chanceryref1_SameAttrs.calls k _ _ l0_3 _ _ l1_3 t182 _ ?side1 ?side2 ?side3 ?side4 A6.out).mono ?_);(case side1=>repeat (exact (Kd.C_below HR0_3.out HB.out)));(case side2=>exact HC0_3.out);(case side3=>repeat (exact (Kd.C_below HR1_3.out HB.out)));(case side4=>exact HC1_3.out);rintro e w' ⟨rfl,⟨nd,rfl⟩⟩))
    go_ret
    exact ⟨by rfl,by repeat ((with_reducible first | exact HB.out | apply pw_below_drewN))⟩
   ·rw [if_neg c5] at H
    have c5b0:(a0_2.toList == a1_2.toList) = false:=beq_eq_false_iff_ne.mpr c5
    have c5b1:(a0_2.toList != a1_2.toList) = true:=bne_iff_ne.mpr c5
    obtain rfl:=Option.some.inj H
    go_enter Try.func75,Try.ntmps75
    go_wp2_with (first | ((with_reducible refine gate_dst (N:=2) rfl ?_);refine box_event ?hg (N:=2) ?hd (cs:=#[.int .i64 a0_0,.int .i64 a0_1,.string a0_2,.slice A0_3 l0_3.length c0_3]) (t:=87) ?hr ?_;(case hd=>rfl);(case hg=>rfl);(case hr=>(go_simp;done));intro gb180 hg w12 hbox hb;have n0_:=Aside0.mk (below_step (by with_reducible exact HB.out) hb);have n1_:=Aside0.mk hbox;have n2_:=Aside0.mk ((by rw [hg];exact (below_size (by with_reducible exact HB.out)):w.heap.size ≤ gb180));have n3_:=Aside0.mk ((by rw [hg];exact (below_size (by with_reducible exact HB.out)):w.heap.size ≤ gb180));clear HB;have HB:=n0_;have BK180:=n1_;have GW180:=n2_;have GE180:=n3_;clear n0_ n1_ n2_ n3_;clear hb hbox hg) | ((with_reducible refine gate_dst (N:=3) rfl ?_);refine box_event ?hg (N:=3) ?hd (cs:=#[.int .i64 a1_0,.int .i64 a1_1,.string a1_2,.slice A1_3 l1_3.length c1_3]) (t:=87) ?hr ?_;(case hd=>rfl);(case hg=>rfl);(case hr=>(go_simp;done));intro gb181 hg w13 hbox hb;have n0_:=Aside0.mk (blk_below BK180.out hb);have n1_:=Aside0.mk (below_step HB.out hb);have n2_:=Aside0.mk hbox;have n3_:=Aside0.mk ((by rw [hg];exact (below_size HB.out):w.heap.size ≤ gb181));have n4_:=Aside0.mk ((by rw [hg];exact (below_size HB.out):w.heap.size ≤ gb181));have n5_:=Aside0.mk ((by rw [hg];exact Nat.ne_of_lt (blk_lt BK180.out):gb180 ≠ gb181));have n6_:=Aside0.mk ((by rw [hg];exact Nat.ne_of_gt (blk_lt BK180.out):gb181 ≠ gb180));clear BK180;clear HB;have BK180:=n0_;have HB:=n1_;have BK181:=n2_;have GW181:=n3_;have GE181:=n4_;have NB180_181:=n5_;have NB181_180:=n6_;clear n0_ n1_ n2_ n3_ n4_ n5_ n6_;clear hb hbox hg;have hnb14:=NB180_181.out;have hnc14:=NB181_180.out;have hcz15_0:w13.cell? ⟨gb180,0,none⟩ = some (.int .i64 a0_0):=(blk_cell BK180.out 0).trans rfl;have hcz15_1:w13.cell? ⟨gb180,1,none⟩ = some (.int .i64 a0_1):=(blk_cell BK180.out 1).trans rfl;have hcz15_2:w13.cell? ⟨gb180,2,none⟩ = some (.string a0_2):=(blk_cell BK180.out 2).trans rfl;have hcz15_3:w13.cell? ⟨gb180,3,none⟩ = some (.slice A0_3 l0_3.length c0_3):=(blk_cell BK180.out 3).trans rfl;have hfz15_0:=blk_frozen BK180.out 0;have hfz15_1:=blk_frozen BK180.out 1;have hfz15_2:=blk_frozen BK180.out 2;have hfz15_3:=blk_frozen BK180.out 3;have hcz16_0:w13.cell? ⟨gb181,0,none⟩ = some (.int .i64 a1_0):=(blk_cell BK181.out 0).trans rfl;have hcz16_1:w13.cell? ⟨gb181,1,none⟩ = some (.int .i64 a1_1):=(blk_cell BK181.out 1).trans rfl;have hcz16_2:w13.cell? ⟨gb181,2,none⟩ = some (.string a1_2):=(blk_cell BK181.out 2).trans rfl;have hcz16_3:w13.cell? ⟨gb181,3,none⟩ = some (.slice A1_3 l1_3.length c1_3):=(blk_cell BK181.out 3).trans rfl;have hfz16_0:=blk_frozen BK181.out 0;have hfz16_1:=blk_frozen BK181.out 1;have hfz16_2:=blk_frozen BK181.out 2;have hfz16_3:=blk_frozen BK181.out 3))
    go_ret
    exact ⟨by rfl,HB.out⟩
  ·rw [if_neg c4] at H
   have c4b0:(a0_1 == a1_1) = false:=beq_eq_false_iff_ne.mpr c4
   have c4b1:(a0_1 != a1_1) = true:=bne_iff_ne.mpr c4
   obtain rfl:=Option.some.inj H
   go_enter Try.func75,Try.ntmps75
   go_wp2_with (first | ((with_reducible refine gate_dst (N:=2) rfl ?_);refine box_event ?hg (N:=2) ?hd (cs:=#[.int .i64 a0_0,.int .i64 a0_1,.string a0_2,.slice A0_3 l0_3.length c0_3]) (t:=87) ?hr ?_;(case hd=>rfl);(case hg=>rfl);(case hr=>(go_simp;done));intro gb180 hg w17 hbox hb;have n0_:=Aside0.mk (below_step (by with_reducible exact HB.out) hb);have n1_:=Aside0.mk hbox;have n2_:=Aside0.mk ((by rw [hg];exact (below_size (by with_reducible exact HB.out)):w.heap.size ≤ gb180));have n3_:=Aside0.mk ((by rw [hg];exact (below_size (by with_reducible exact HB.out)):w.heap.size ≤ gb180));clear HB;have HB:=n0_;have BK180:=n1_;have GW180:=n2_;have GE180:=n3_;clear n0_ n1_ n2_ n3_;clear hb hbox hg) | ((with_reducible refine gate_dst (N:=3) rfl ?_);refine box_event ?hg (N:=3) ?hd (cs:=#[.int .i64 a1_0,.int .i64 a1_1,.string a1_2,.slice A1_3 l1_3.length c1_3]) (t:=87) ?hr ?_;(case hd=>rfl);(case hg=>rfl);(case hr=>(go_simp;done));intro gb181 hg w18 hbox hb;have n0_:=Aside0.mk (blk_below BK180.out hb);have n1_:=Aside0.mk (below_step HB.out hb);have n2_:=Aside0.mk hbox;have n3_:=Aside0.mk ((by rw [hg];exact (below_size HB.out):w.heap.size ≤ gb181));have n4_:=Aside0.mk ((by rw [hg];exact (below_size HB.out):w.heap.size ≤ gb181));have n5_:=Aside0.mk ((by rw [hg];exact Nat.ne_of_lt (blk_lt BK180.out):gb180 ≠ gb181));have n6_:=Aside0.mk ((by rw [hg];exact Nat.ne_of_gt (blk_lt BK180.out):gb181 ≠ gb180));clear BK180;clear HB;have BK180:=n0_;have HB:=n1_;have BK181:=n2_;have GW181:=n3_;have GE181:=n4_;have NB180_181:=n5_;have NB181_180:=n6_;clear n0_ n1_ n2_ n3_ n4_ n5_ n6_;clear hb hbox hg;have hnb19:=NB180_181.out;have hnc19:=NB181_180.out;have hcz20_0:w18.cell? ⟨gb180,0,none⟩ = some (.int .i64 a0_0):=(blk_cell BK180.out 0).trans rfl;have hcz20_1:w18.cell? ⟨gb180,1,none⟩ = some (.int .i64 a0_1):=(blk_cell BK180.out 1).trans rfl;have hcz20_2:w18.cell? ⟨gb180,2,none⟩ = some (.string a0_2):=(blk_cell BK180.out 2).trans rfl;have hcz20_3:w18.cell? ⟨gb180,3,none⟩ = some (.slice A0_3 l0_3.length c0_3):=(blk_cell BK180.out 3).trans rfl;have hfz20_0:=blk_frozen BK180.out 0;have hfz20_1:=blk_frozen BK180.out 1;have hfz20_2:=blk_frozen BK180.out 2;have hfz20_3:=blk_frozen BK180.out 3;have hcz21_0:w18.cell? ⟨gb181,0,none⟩ = some (.int .i64 a1_0):=(blk_cell BK181.out 0).trans rfl;have hcz21_1:w18.cell? ⟨gb181,1,none⟩ = some (.int .i64 a1_1):=(blk_cell BK181.out 1).trans rfl;have hcz21_2:w18.cell? ⟨gb181,2,none⟩ = some (.string a1_2):=(blk_cell BK181.out 2).trans rfl;have hcz21_3:w18.cell? ⟨gb181,3,none⟩ = some (.slice A1_3 l1_3.length c1_3):=(blk_cell BK181.out 3).trans rfl;have hfz21_0:=blk_frozen BK181.out 0;have hfz21_1:=blk_frozen BK181.out 1;have hfz21_2:=blk_frozen BK181.out 2;have hfz21_3:=blk_frozen BK181.out 3))
   go_ret
   exact ⟨by rfl,HB.out⟩
 ·rw [if_neg c3] at H
  have c3b0:(a0_0 == a1_0) = false:=beq_eq_false_iff_ne.mpr c3
  have c3b1:(a0_0 != a1_0) = true:=bne_iff_ne.mpr c3
  obtain rfl:=Option.some.inj H
  go_enter Try.func75,Try.ntmps75
  go_wp2_with (first | ((with_reducible refine gate_dst (N:=2) rfl ?_);refine box_event ?hg (N:=2) ?hd (cs:=#[.int .i64 a0_0,.int .i64 a0_1,.string a0_2,.slice A0_3 l0_3.length c0_3]) (t:=87) ?hr ?_;(case hd=>rfl);(case hg=>rfl);(case hr=>(go_simp;done));intro gb180 hg w22 hbox hb;have n0_:=Aside0.mk (below_step (by with_reducible exact HB.out) hb);have n1_:=Aside0.mk hbox;have n2_:=Aside0.mk ((by rw [hg];exact (below_size (by with_reducible exact HB.out)):w.heap.size ≤ gb180));have n3_:=Aside0.mk ((by rw [hg];exact (below_size (by with_reducible exact HB.out)):w.heap.size ≤ gb180));clear HB;have HB:=n0_;have BK180:=n1_;have GW180:=n2_;have GE180:=n3_;clear n0_ n1_ n2_ n3_;clear hb hbox hg) | ((with_reducible refine gate_dst (N:=3) rfl ?_);refine box_event ?hg (N:=3) ?hd (cs:=#[.int .i64 a1_0,.int .i64 a1_1,.string a1_2,.slice A1_3 l1_3.length c1_3]) (t:=87) ?hr ?_;(case hd=>rfl);(case hg=>rfl);(case hr=>(go_simp;done));intro gb181 hg w23 hbox hb;have n0_:=Aside0.mk (blk_below BK180.out hb);have n1_:=Aside0.mk (below_step HB.out hb);have n2_:=Aside0.mk hbox;have n3_:=Aside0.mk ((by rw [hg];exact (below_size HB.out):w.heap.size ≤ gb181));have n4_:=Aside0.mk ((by rw [hg];exact (below_size HB.out):w.heap.size ≤ gb181));have n5_:=Aside0.mk ((by rw [hg];exact Nat.ne_of_lt (blk_lt BK180.out):gb180 ≠ gb181));have n6_:=Aside0.mk ((by rw [hg];exact Nat.ne_of_gt (blk_lt BK180.out):gb181 ≠ gb180));clear BK180;clear HB;have BK180:=n0_;have HB:=n1_;have BK181:=n2_;have GW181:=n3_;have GE181:=n4_;have NB180_181:=n5_;have NB181_180:=n6_;clear n0_ n1_ n2_ n3_ n4_ n5_ n6_;clear hb hbox hg;have hnb24:=NB180_181.out;have hnc24:=NB181_180.out;have hcz25_0:w23.cell? ⟨gb180,0,none⟩ = some (.int .i64 a0_0):=(blk_cell BK180.out 0).trans rfl;have hcz25_1:w23.cell? ⟨gb180,1,none⟩ = some (.int .i64 a0_1):=(blk_cell BK180.out 1).trans rfl;have hcz25_2:w23.cell? ⟨gb180,2,none⟩ = some (.string a0_2):=(blk_cell BK180.out 2).trans rfl;have hcz25_3:w23.cell? ⟨gb180,3,none⟩ = some (.slice A0_3 l0_3.length c0_3):=(blk_cell BK180.out 3).trans rfl;have hfz25_0:=blk_frozen BK180.out 0;have hfz25_1:=blk_frozen BK180.out 1;have hfz25_2:=blk_frozen BK180.out 2;have hfz25_3:=blk_frozen BK180.out 3;have hcz26_0:w23.cell? ⟨gb181,0,none⟩ = some (.int .i64 a1_0):=(blk_cell BK181.out 0).trans rfl;have hcz26_1:w23.cell? ⟨gb181,1,none⟩ = some (.int .i64 a1_1):=(blk_cell BK181.out 1).trans rfl;have hcz26_2:w23.cell? ⟨gb181,2,none⟩ = some (.string a1_2):=(blk_cell BK181.out 2).trans rfl;have hcz26_3:w23.cell? ⟨gb181,3,none⟩ = some (.slice A1_3 l1_3.length c1_3):=(blk_cell BK181.out 3).trans rfl;have hfz26_0:=blk_frozen BK181.out 0;have hfz26_1:=blk_frozen BK181.out 1;have hfz26_2:=blk_frozen BK181.out 2;have hfz26_3:=blk_frozen BK181.out 3))
  go_ret
  exact ⟨by rfl,HB.out⟩
def chanceryref1_SameItems.l0:Nat → List (S87) → List (S87) → Int → Int → Option (Bool)
 | 0,_,_,_,_=>none
 | k + 1,x0,x1,x12,x13=>if x13 < x12 then (if 0 ≤ x13 then (if x13 < (x0.length:Int) then (if x13 < (x1.length:Int) then ((chanceryref1_SameItem.f k ((rd_T87 x0 x13).f0) ((rd_T87 x0 x13).f1) ((rd_T87 x0 x13).f2) ((rd_T87 x0 x13).f3) ((rd_T87 x1 x13).f0) ((rd_T87 x1 x13).f1) ((rd_T87 x1 x13).f2) ((rd_T87 x1 x13).f3)).bind fun t185=>(if t185 = true then (chanceryref1_SameItems.l0 k x0 x1 x12 (wrap64 (x13 + 1))) else (some false))) else (none)) else (none)) else (none)) else (some true)
def chanceryref1_SameItems.f (k:Nat) (l0:List (S87)) (l1:List (S87)):Option (Bool):=if (l0.length:Int) = (l1.length:Int) then (chanceryref1_SameItems.l0 k l0 l1 (l0.length:Int) 0) else (some false)
def chanceryref1_SameItems.T6:Bool × List (List Nat × List Nat):=(true,[([],[]),([],[]),([0,1],[0,1]),([2],[2]),([],[]),([],[]),([4,5],[4,5]),([6],[6]),([3,7],[3,7]),([8],[8])])
def chanceryref1_SameItems.B6:List Nat:=[0,0,3,7,0,0,48,112,255,511]
theorem chanceryref1_SameItems.tab6:rtab .any (opsOf Try.f39 6) = chanceryref1_SameItems.T6:=by kernel_rfl
theorem chanceryref1_SameItems.bits6:waitsOk chanceryref1_SameItems.T6.2 chanceryref1_SameItems.B6 = true:=by kernel_rfl
set_option maxHeartbeats 8000000 in
set_option maxRecDepth 100000 in
theorem chanceryref1_SameItems.calls (k:Nat) (A0:Option Addr) (c0:Nat) (l0:List (S87)) (A1:Option Addr) (c1:Nat) (l1:List (S87)) (r:Bool) (w:World) (hr0:Kd.C k87 w A0 l0.length l0) (hc0:l0.length ≤ c0) (hr1:Kd.C k87 w A1 l1.length l1) (hc1:l1.length ≤ c1) (h:chanceryref1_SameItems.f k l0 l1 = some r) :
 Calls Try.prog 39 #[.slice A0 l0.length c0,.slice A1 l1.length c1] w fun e w'=>e = .returned (.bool r) ∧ Below w.heap.size w w':=by
 have hu87:=Try.underlying87
 have HR0:=Aside0.mk hr0
 have HC0:=Aside0.mk hc0
 clear hr0 hc0
 have HR1:=Aside0.mk hr1
 have HC1:=Aside0.mk hc1
 clear hr1 hc1
 have HB:=Aside0.mk (Below.refl w.heap.size w)
 have H:(if (l0.length:Int) = (l1.length:Int) then (chanceryref1_SameItems.l0 k l0 l1 (l0.length:Int) 0) else (some false)) = some r:=h
 clear h
 by_cases c3:(l0.length:Int) = (l1.length:Int)
 ·rw [if_pos c3] at H
  have c3b0:((l0.length:Int) == (l1.length:Int)) = true:=beq_iff_eq.mpr c3
  have c3b1:((l0.length:Int) != (l1.length:Int)) = false:=bne_eq_false_iff_eq.mpr c3
  have c3b2:(l0.length == l1.length) = true:=by (simp at c3 ⊢;omega)
  clear c3
  have H':=Aside0.mk H
  clear H
  go_enter Try.func39,Try.ntmps39
  go_wp2
  go_loopg [13] k (fun kq v13 w'=>∃ (x13_1:Int),v13 = .int .i64 x13_1 ∧ Aside0 (chanceryref1_SameItems.l0 kq l0 l1 (l0.length:Int) x13_1 = some r) ∧ Aside0 (kq ≤ k) ∧ Aside0 (Below w.heap.size w w'))
  case atStart=>exact ⟨(0),(by rfl),H',⟨Nat.le_refl _⟩,⟨HB.out⟩⟩
  case round =>
   clear H'
   try clear c3b0
   try clear c3b1
   try clear c3b2
   obtain ⟨x13_1,rfl,HA,HK1,HB⟩:=hrel
   cases gk with
   | zero=>exact absurd HA.out (by simp [chanceryref1_SameItems.l0])
   | succ k1 =>
    have H:=HA.out
    clear HA
    simp only [chanceryref1_SameItems.l0] at H
    by_cases c4:x13_1 < (l0.length:Int)
    ·rw [if_pos c4] at H
     have c4b0:decide (x13_1 < (l0.length:Int)) = true:=decide_eq_true c4
     clear c4
     by_cases c5:0 ≤ x13_1
     ·rw [if_pos c5] at H
      have c5b0:decide (0 ≤ x13_1) = true:=decide_eq_true c5
      clear c5
      by_cases c6:x13_1 < (l0.length:Int)
      ·rw [if_pos c6] at H
       have c6b0:decide (x13_1 < (l0.length:Int)) = true:=decide_eq_true c6
       clear c6
       by_cases c7:x13_1 < (l1.length:Int)
       ·rw [if_pos c7] at H
        have c7b0:decide (x13_1 < (l1.length:Int)) = true:=decide_eq_true c7
        clear c7
        replace H:=Option.bind_eq_some_iff.mp H
        obtain ⟨t185,A80,H⟩:=H
        replace H:(if t185 = true then (chanceryref1_SameItems.l0 k1 l0 l1 (l0.length:Int) (wrap64 (x13_1 + 1))) else (some false)) = some r:=H
        have A8:=Aside0.mk A80
        clear A80
        by_cases c9:t185 = true
        ·subst c9
         have H1:(chanceryref1_SameItems.l0 k1 l0 l1 (l0.length:Int) (wrap64 (x13_1 + 1))) = some r:=by rw [if_pos rfl] at H;exact H
         clear H
         have H:=H1
         clear H1
         have H':=Aside0.mk H
         clear H
         try go_wp2
         have n0_:=Aside0.mk (below_drew1 HB.out)
         clear HB
         have HB:=n0_
         clear n0_
         have p183:0 ≤ (x13_1:Int):=of_decide_eq_true (by assumption)
         have q183:x13_1 < (l0.length:Int):=of_decide_eq_true (by assumption)
         obtain ⟨ad183,A183_3,c183_3,e183,hx183_0,hx183_1,hx183_2,hx183_3,hl183_3,hi183_3⟩:=at_T87 HR0.out x13_1 p183 q183
         have hw183_3:=hx183_3
         have hw183_2:=hx183_2
         have hw183_1:=hx183_1
         have hw183_0:=hx183_0
         cases e183
         replace hx183_0:=(HB.out.cell (World.block_lt_of_cell? w _ hx183_0)).trans hx183_0
         replace hx183_1:=(HB.out.cell (World.block_lt_of_cell? w _ hx183_1)).trans hx183_1
         replace hx183_2:=(HB.out.cell (World.block_lt_of_cell? w _ hx183_2)).trans hx183_2
         replace hx183_3:=(HB.out.cell (World.block_lt_of_cell? w _ hx183_3)).trans hx183_3
         have HR183_3:=Aside0.mk hi183_3
         have HC183_3:=Aside0.mk hl183_3
         clear hi183_3 hl183_3
         replace p183:=eq_true p183
         replace q183:=eq_true q183
         have p184:0 ≤ (x13_1:Int):=of_decide_eq_true (by assumption)
         have q184:x13_1 < (l1.length:Int):=of_decide_eq_true (by assumption)
         obtain ⟨ad184,A184_3,c184_3,e184,hx184_0,hx184_1,hx184_2,hx184_3,hl184_3,hi184_3⟩:=at_T87 HR1.out x13_1 p184 q184
         have hw184_3:=hx184_3
         have hw184_2:=hx184_2
         have hw184_1:=hx184_1
         have hw184_0:=hx184_0
         cases e184
         replace hx184_0:=(HB.out.cell (World.block_lt_of_cell? w _ hx184_0)).trans hx184_0
         replace hx184_1:=(HB.out.cell (World.block_lt_of_cell? w _ hx184_1)).trans hx184_1
         replace hx184_2:=(HB.out.cell (World.block_lt_of_cell? w _ hx184_2)).trans hx184_2
         replace hx184_3:=(HB.out.cell (World.block_lt_of_cell? w _ hx184_3)).trans hx184_3
         have HR184_3:=Aside0.mk hi184_3
         have HC184_3:=Aside0.mk hl184_3
         clear hi184_3 hl184_3
         replace p184:=eq_true p184
         replace q184:=eq_true q184
         refine start_ (n:=10) (S:=fun w'=>w'.cell? (ad183.add ((x13_1).toNat * 4)) = some (.int .i64 ((rd_T87 l0 x13_1).f0)) ∧ w'.cell? ⟨(ad183.add ((x13_1).toNat * 4)).block,(ad183.add ((x13_1).toNat * 4)).off + 1,none⟩ = some (.int .i64 ((rd_T87 l0 x13_1).f1)) ∧ w'.cell? ⟨(ad183.add ((x13_1).toNat * 4)).block,(ad183.add ((x13_1).toNat * 4)).off + 2,none⟩ = some (.string ((rd_T87 l0 x13_1).f2)) ∧ w'.cell? ⟨(ad183.add ((x13_1).toNat * 4)).block,(ad183.add ((x13_1).toNat * 4)).off + 3,none⟩ = some (.slice A183_3 ((rd_T87 l0 x13_1).f3).length c183_3) ∧ w'.cell? (ad184.add ((x13_1).toNat * 4)) = some (.int .i64 ((rd_T87 l1 x13_1).f0)) ∧ w'.cell? ⟨(ad184.add ((x13_1).toNat * 4)).block,(ad184.add ((x13_1).toNat * 4)).off + 1,none⟩ = some (.int .i64 ((rd_T87 l1 x13_1).f1)) ∧ w'.cell? ⟨(ad184.add ((x13_1).toNat * 4)).block,(ad184.add ((x13_1).toNat * 4)).off + 2,none⟩ = some (.string ((rd_T87 l1 x13_1).f2)) ∧ w'.cell? ⟨(ad184.add ((x13_1).toNat * 4)).block,(ad184.add ((x13_1).toNat * 4)).off + 3,none⟩ = some (.slice A184_3 ((rd_T87 l1 x13_1).f3).length c184_3)) (ds:=[]) #[false,false,false,false,false,false,false,false,false,false] (by kernel_rfl) rfl rfl ⟨((HB.out.cell (World.block_lt_of_cell? w _ hw183_0)).trans hw183_0),((HB.out.cell (World.block_lt_of_cell? w _ hw183_1)).trans hw183_1),((HB.out.cell (World.block_lt_of_cell? w _ hw183_2)).trans hw183_2),((HB.out.cell (World.block_lt_of_cell? w _ hw183_3)).trans hw183_3),((HB.out.cell (World.block_lt_of_cell? w _ hw184_0)).trans hw184_0),((HB.out.cell (World.block_lt_of_cell? w _ hw184_1)).trans hw184_1),((HB.out.cell (World.block_lt_of_cell? w _ hw184_2)).trans hw184_2),((HB.out.cell (World.block_lt_of_cell? w _ hw184_3)).trans hw184_3)⟩ (fun hHeld=>?_);refine with_tabW chanceryref1_SameItems.tab6 chanceryref1_SameItems.bits6 (fun HT_ HW_=>?_)
         generalize wr.drew = w10 at HB HR183_3 HR184_3 hx183_0 hx183_1 hx183_2 hx183_3 hx184_0 hx184_1 hx184_2 hx184_3 hHeld ⊢
         refine pure_ (i:=0) (N:=some 16) (v:=?_) (a':=?_) (bm 1 10) rfl rfl (any_of HT_.out (by kernel_rfl)) (fun _ _ _ h=>h) (Or.inl ⟨by rfl,?_⟩) ?_ ?_
         rotate_left
         ·intro w'
          go_simp
          with_reducible rfl
         rotate_left
         ·simp only [Act.put,sA,sB,sC,i64_w,i32_w]
          rfl
         refine pure_ (i:=1) (N:=some 17) (v:=?_) (a':=?_) (bm 3 10) rfl rfl (any_of HT_.out (by kernel_rfl)) (fun _ _ _ h=>h) (Or.inl ⟨by rfl,?_⟩) ?_ ?_
         rotate_left
         ·intro w'
          go_simp
          with_reducible rfl
         rotate_left
         ·simp only [Act.put,sA,sB,sC,i64_w,i32_w]
          rfl
         refine pure_ (i:=2) (N:=some 18) (v:=?_) (a':=?_) (bm 7 10) rfl rfl (any_of HT_.out (by kernel_rfl)) (fun _ _ _ h=>h) (Or.inl ⟨by rfl,?_⟩) ?_ ?_
         rotate_left
         ·intro w'
          go_simp
          with_reducible rfl
         rotate_left
         ·simp only [Act.put,sA,sB,sC,i64_w,i32_w]
          rfl
         refine pure_ (i:=4) (N:=some 20) (v:=?_) (a':=?_) (bm 23 10) rfl rfl (any_of HT_.out (by kernel_rfl)) (fun _ _ _ h=>h) (Or.inl ⟨by rfl,?_⟩) ?_ ?_
         rotate_left
         ·intro w'
          go_simp
          with_reducible rfl
         rotate_left
         ·simp only [Act.put,sA,sB,sC,i64_w,i32_w]
          rfl
         refine pure_ (i:=5) (N:=some 21) (v:=?_) (a':=?_) (bm 55 10) rfl rfl (any_of HT_.out (by kernel_rfl)) (fun _ _ _ h=>h) (Or.inl ⟨by rfl,?_⟩) ?_ ?_
         rotate_left
         ·intro w'
          go_simp
          with_reducible rfl
         rotate_left
         ·simp only [Act.put,sA,sB,sC,i64_w,i32_w]
          rfl
         refine pure_ (i:=6) (N:=some 22) (v:=?_) (a':=?_) (bm 119 10) rfl rfl (any_of HT_.out (by kernel_rfl)) (fun _ _ _ h=>h) (Or.inl ⟨by rfl,?_⟩) ?_ ?_
         rotate_left
         ·intro w'
          go_simp
          with_reducible rfl
         rotate_left
         ·simp only [Act.put,sA,sB,sC,i64_w,i32_w]
          rfl
         refine take_ (i:=3) (N:=some 19) (v:=?_) (a':=?_) (bm 127 10) rfl rfl (take_ofW HT_.out HW_.out (by kernel_rfl)) (fun _ _ _ h=>h) (Or.inl ⟨by rfl,?_⟩) hHeld ?_ ?_
         rotate_left
         ·rintro w' ⟨s0,s1,s2,s3,s4,s5,s6,s7⟩
          go_simp
          with_reducible rfl
         rotate_left
         ·simp only [Act.put,sA,sB,sC,i64_w,i32_w]
          rfl
         refine take_ (i:=7) (N:=some 23) (v:=?_) (a':=?_) (bm 255 10) rfl rfl (take_ofW HT_.out HW_.out (by kernel_rfl)) (fun _ _ _ h=>h) (Or.inl ⟨by rfl,?_⟩) hHeld ?_ ?_
         rotate_left
         ·rintro w' ⟨s0,s1,s2,s3,s4,s5,s6,s7⟩
          go_simp
          with_reducible rfl
         rotate_left
         ·simp only [Act.put,sA,sB,sC,i64_w,i32_w]
          rfl
         refine one_ (i:=8) (N:=some 24) (bm 511 10) rfl rfl (one_of HT_.out (by kernel_rfl)) (by decide) (fun K hK=>?_)
         refine goes_ Try.func75 (by kernel_rfl) rfl #[.agg #[.int .i64 ((rd_T87 l0 x13_1).f0),.int .i64 ((rd_T87 l0 x13_1).f1),.string ((rd_T87 l0 x13_1).f2),.slice A183_3 ((rd_T87 l0 x13_1).f3).length c183_3],.agg #[.int .i64 ((rd_T87 l1 x13_1).f0),.int .i64 ((rd_T87 l1 x13_1).f1),.string ((rd_T87 l1 x13_1).f2),.slice A184_3 ((rd_T87 l1 x13_1).f3).length c184_3]] (by rfl) rfl rfl (by (try simp only [List.map_toArray,List.map_cons,List.map_nil]);rfl) ?_
         with_reducible refine (chanceryref1_SameItem.calls k1 ((rd_T87 l0 x13_1).f0) ((rd_T87 l0 x13_1).f1) ((rd_T87 l0 x13_1).f2) _ _ ((rd_T87 l0 x13_1).f3) ((rd_T87 l1 x13_1).f0) ((rd_T87 l1 x13_1).f1) ((rd_T87 l1 x13_1).f2) _ _ ((rd_T87 l1 x13_1).f3) true _ ?side1 ?side2 ?side3 ?side4 A8.out).mono ?_
         (case side1=>repeat (exact (Kd.C_below HR183_3.out HB.out)))
         (case side2=>exact HC183_3.out)
         (case side3=>repeat (exact (Kd.C_below HR184_3.out HB.out)))
         (case side4=>exact HC184_3.out)
         rintro e w11 ⟨rfl,hb⟩
         refine ⟨_,rfl,?_⟩
         have n0_:=Aside0.mk (below_step (by with_reducible exact HB.out) hb)
         clear HB
         have HB:=n0_
         clear n0_
         (try clear hb)
         (try clear hb2)
         (try clear hk)
         (try clear hi)
         refine hK.out _ _ ⟨((HB.out.cell (World.block_lt_of_cell? w _ hw183_0)).trans hw183_0),((HB.out.cell (World.block_lt_of_cell? w _ hw183_1)).trans hw183_1),((HB.out.cell (World.block_lt_of_cell? w _ hw183_2)).trans hw183_2),((HB.out.cell (World.block_lt_of_cell? w _ hw183_3)).trans hw183_3),((HB.out.cell (World.block_lt_of_cell? w _ hw184_0)).trans hw184_0),((HB.out.cell (World.block_lt_of_cell? w _ hw184_1)).trans hw184_1),((HB.out.cell (World.block_lt_of_cell? w _ hw184_2)).trans hw184_2),((HB.out.cell (World.block_lt_of_cell? w _ hw184_3)).trans hw184_3)⟩ (fun hHeld=>?_)
         clear hK K
         refine norm_ (a':=?_) ?_ ?_
         rotate_left
         ·show Act.put _ (some 24) _ = _
          simp only [Act.put,sA,sB,sC,i64_w,i32_w]
          rfl
         refine pure_ (i:=9) (N:=some 25) (v:=?_) (a':=?_) (bm 1023 10) rfl rfl (any_of HT_.out (by kernel_rfl)) (fun _ _ _ h=>h) (Or.inl ⟨by rfl,?_⟩) ?_ ?_
         rotate_left
         ·intro w'
          go_simp
          with_reducible rfl
         rotate_left
         ·simp only [Act.put,sA,sB,sC,i64_w,i32_w]
          rfl
         refine done_ (done_of HT_.out (by kernel_rfl)) ?_
         try go_wp2
         go_roundg k1
         case measure=>have:=HK1.out;omega
         case rel=>exact ⟨(wrap64 (x13_1 + 1)),(by rfl),H',⟨by have:=HK1.out;omega⟩,⟨HB.out⟩⟩
        ·replace c9:=Bool.eq_false_iff.mpr c9
         subst c9
         have H1:(some false) = some r:=by rw [if_neg (show ¬ (false = true) by decide)] at H;exact H
         clear H
         have H:=H1
         clear H1
         obtain rfl:=Option.some.inj H
         try go_wp2
         have n0_:=Aside0.mk (below_drew1 HB.out)
         clear HB
         have HB:=n0_
         clear n0_
         have p183:0 ≤ (x13_1:Int):=of_decide_eq_true (by assumption)
         have q183:x13_1 < (l0.length:Int):=of_decide_eq_true (by assumption)
         obtain ⟨ad183,A183_3,c183_3,e183,hx183_0,hx183_1,hx183_2,hx183_3,hl183_3,hi183_3⟩:=at_T87 HR0.out x13_1 p183 q183
         have hw183_3:=hx183_3
         have hw183_2:=hx183_2
         have hw183_1:=hx183_1
         have hw183_0:=hx183_0
         cases e183
         replace hx183_0:=(HB.out.cell (World.block_lt_of_cell? w _ hx183_0)).trans hx183_0
         replace hx183_1:=(HB.out.cell (World.block_lt_of_cell? w _ hx183_1)).trans hx183_1
         replace hx183_2:=(HB.out.cell (World.block_lt_of_cell? w _ hx183_2)).trans hx183_2
         replace hx183_3:=(HB.out.cell (World.block_lt_of_cell? w _ hx183_3)).trans hx183_3
         have HR183_3:=Aside0.mk hi183_3
         have HC183_3:=Aside0.mk hl183_3
         clear hi183_3 hl183_3
         replace p183:=eq_true p183
         replace q183:=eq_true q183
         have p184:0 ≤ (x13_1:Int):=of_decide_eq_true (by assumption)
         have q184:x13_1 < (l1.length:Int):=of_decide_eq_true (by assumption)
         obtain ⟨ad184,A184_3,c184_3,e184,hx184_0,hx184_1,hx184_2,hx184_3,hl184_3,hi184_3⟩:=at_T87 HR1.out x13_1 p184 q184
         have hw184_3:=hx184_3
         have hw184_2:=hx184_2
         have hw184_1:=hx184_1
         have hw184_0:=hx184_0
         cases e184
         replace hx184_0:=(HB.out.cell (World.block_lt_of_cell? w _ hx184_0)).trans hx184_0
         replace hx184_1:=(HB.out.cell (World.block_lt_of_cell? w _ hx184_1)).trans hx184_1
         replace hx184_2:=(HB.out.cell (World.block_lt_of_cell? w _ hx184_2)).trans hx184_2
         replace hx184_3:=(HB.out.cell (World.block_lt_of_cell? w _ hx184_3)).trans hx184_3
         have HR184_3:=Aside0.mk hi184_3
         have HC184_3:=Aside0.mk hl184_3
         clear hi184_3 hl184_3
         replace p184:=eq_true p184
         replace q184:=eq_true q184
         refine start_ (n:=10) (S:=fun w'=>w'.cell? (ad183.add ((x13_1).toNat * 4)) = some (.int .i64 ((rd_T87 l0 x13_1).f0)) ∧ w'.cell? ⟨(ad183.add ((x13_1).toNat * 4)).block,(ad183.add ((x13_1).toNat * 4)).off + 1,none⟩ = some (.int .i64 ((rd_T87 l0 x13_1).f1)) ∧ w'.cell? ⟨(ad183.add ((x13_1).toNat * 4)).block,(ad183.add ((x13_1).toNat * 4)).off + 2,none⟩ = some (.string ((rd_T87 l0 x13_1).f2)) ∧ w'.cell? ⟨(ad183.add ((x13_1).toNat * 4)).block,(ad183.add ((x13_1).toNat * 4)).off + 3,none⟩ = some (.slice A183_3 ((rd_T87 l0 x13_1).f3).length c183_3) ∧ w'.cell? (ad184.add ((x13_1).toNat * 4)) = some (.int .i64 ((rd_T87 l1 x13_1).f0)) ∧ w'.cell? ⟨(ad184.add ((x13_1).toNat * 4)).block,(ad184.add ((x13_1).toNat * 4)).off + 1,none⟩ = some (.int .i64 ((rd_T87 l1 x13_1).f1)) ∧ w'.cell? ⟨(ad184.add ((x13_1).toNat * 4)).block,(ad184.add ((x13_1).toNat * 4)).off + 2,none⟩ = some (.string ((rd_T87 l1 x13_1).f2)) ∧ w'.cell? ⟨(ad184.add ((x13_1).toNat * 4)).block,(ad184.add ((x13_1).toNat * 4)).off + 3,none⟩ = some (.slice A184_3 ((rd_T87 l1 x13_1).f3).length c184_3)) (ds:=[]) #[false,false,false,false,false,false,false,false,false,false] (by kernel_rfl) rfl rfl ⟨((HB.out.cell (World.block_lt_of_cell? w _ hw183_0)).trans hw183_0),((HB.out.cell (World.block_lt_of_cell? w _ hw183_1)).trans hw183_1),((HB.out.cell (World.block_lt_of_cell? w _ hw183_2)).trans hw183_2),((HB.out.cell (World.block_lt_of_cell? w _ hw183_3)).trans hw183_3),((HB.out.cell (World.block_lt_of_cell? w _ hw184_0)).trans hw184_0),((HB.out.cell (World.block_lt_of_cell? w _ hw184_1)).trans hw184_1),((HB.out.cell (World.block_lt_of_cell? w _ hw184_2)).trans hw184_2),((HB.out.cell (World.block_lt_of_cell? w _ hw184_3)).trans hw184_3)⟩ (fun hHeld=>?_);refine with_tabW chanceryref1_SameItems.tab6 chanceryref1_SameItems.bits6 (fun HT_ HW_=>?_)
         generalize wr.drew = w12 at HB HR183_3 HR184_3 hx183_0 hx183_1 hx183_2 hx183_3 hx184_0 hx184_1 hx184_2 hx184_3 hHeld ⊢
         refine pure_ (i:=0) (N:=some 16) (v:=?_) (a':=?_) (bm 1 10) rfl rfl (any_of HT_.out (by kernel_rfl)) (fun _ _ _ h=>h) (Or.inl ⟨by rfl,?_⟩) ?_ ?_
         rotate_left
         ·intro w'
          go_simp
          with_reducible rfl
         rotate_left
         ·simp only [Act.put,sA,sB,sC,i64_w,i32_w]
          rfl
         refine pure_ (i:=1) (N:=some 17) (v:=?_) (a':=?_) (bm 3 10) rfl rfl (any_of HT_.out (by kernel_rfl)) (fun _ _ _ h=>h) (Or.inl ⟨by rfl,?_⟩) ?_ ?_
         rotate_left
         ·intro w'
          go_simp
          with_reducible rfl
         rotate_left
         ·simp only [Act.put,sA,sB,sC,i64_w,i32_w]
          rfl
         refine pure_ (i:=2) (N:=some 18) (v:=?_) (a':=?_) (bm 7 10) rfl rfl (any_of HT_.out (by kernel_rfl)) (fun _ _ _ h=>h) (Or.inl ⟨by rfl,?_⟩) ?_ ?_
         rotate_left
         ·intro w'
          go_simp
          with_reducible rfl
         rotate_left
         ·simp only [Act.put,sA,sB,sC,i64_w,i32_w]
          rfl
         refine pure_ (i:=4) (N:=some 20) (v:=?_) (a':=?_) (bm 23 10) rfl rfl (any_of HT_.out (by kernel_rfl)) (fun _ _ _ h=>h) (Or.inl ⟨by rfl,?_⟩) ?_ ?_
         rotate_left
         ·intro w'
          go_simp
          with_reducible rfl
         rotate_left
         ·simp only [Act.put,sA,sB,sC,i64_w,i32_w]
          rfl
         refine pure_ (i:=5) (N:=some 21) (v:=?_) (a':=?_) (bm 55 10) rfl rfl (any_of HT_.out (by kernel_rfl)) (fun _ _ _ h=>h) (Or.inl ⟨by rfl,?_⟩) ?_ ?_
         rotate_left
         ·intro w'
          go_simp
          with_reducible rfl
         rotate_left
         ·simp only [Act.put,sA,sB,sC,i64_w,i32_w]
          rfl
         refine pure_ (i:=6) (N:=some 22) (v:=?_) (a':=?_) (bm 119 10) rfl rfl (any_of HT_.out (by kernel_rfl)) (fun _ _ _ h=>h) (Or.inl ⟨by rfl,?_⟩) ?_ ?_
         rotate_left
         ·intro w'
          go_simp
          with_reducible rfl
         rotate_left
         ·simp only [Act.put,sA,sB,sC,i64_w,i32_w]
          rfl
         refine take_ (i:=3) (N:=some 19) (v:=?_) (a':=?_) (bm 127 10) rfl rfl (take_ofW HT_.out HW_.out (by kernel_rfl)) (fun _ _ _ h=>h) (Or.inl ⟨by rfl,?_⟩) hHeld ?_ ?_
         rotate_left
         ·rintro w' ⟨s0,s1,s2,s3,s4,s5,s6,s7⟩
          go_simp
          with_reducible rfl
         rotate_left
         ·simp only [Act.put,sA,sB,sC,i64_w,i32_w]
          rfl
         refine take_ (i:=7) (N:=some 23) (v:=?_) (a':=?_) (bm 255 10) rfl rfl (take_ofW HT_.out HW_.out (by kernel_rfl)) (fun _ _ _ h=>h) (Or.inl ⟨by rfl,?_⟩) hHeld ?_ ?_
         rotate_left
         ·rintro w' ⟨s0,s1,s2,s3,s4,s5,s6,s7⟩
          go_simp
          with_reducible rfl
         rotate_left
         ·simp only [Act.put,sA,sB,sC,i64_w,i32_w]
          rfl
         refine one_ (i:=8) (N:=some 24) (bm 511 10) rfl rfl (one_of HT_.out (by kernel_rfl)) (by decide) (fun K hK=>?_)
         refine goes_ Try.func75 (by kernel_rfl) rfl #[.agg #[.int .i64 ((rd_T87 l0 x13_1).f0),.int .i64 ((rd_T87 l0 x13_1).f1),.string ((rd_T87 l0 x13_1).f2),.slice A183_3 ((rd_T87 l0 x13_1).f3).length c183_3],.agg #[.int .i64 ((rd_T87 l1 x13_1).f0),.int .i64 ((rd_T87 l1 x13_1).f1),.string ((rd_T87 l1 x13_1).f2),.slice A184_3 ((rd_T87 l1 x13_1).f3).length c184_3]] (by rfl) rfl rfl (by (try simp only [List.map_toArray,List.map_cons,List.map_nil]);rfl) ?_
         with_reducible refine (chanceryref1_SameItem.calls k1 ((rd_T87 l0 x13_1).f0) ((rd_T87 l0 x13_1).f1) ((rd_T87 l0 x13_1).f2) _ _ ((rd_T87 l0 x13_1).f3) ((rd_T87 l1 x13_1).f0) ((rd_T87 l1 x13_1).f1) ((rd_T87 l1 x13_1).f2) _ _ ((rd_T87 l1 x13_1).f3) false _ ?side1 ?side2 ?side3 ?side4 A8.out).mono ?_
         (case side1=>repeat (exact (Kd.C_below HR183_3.out HB.out)))
         (case side2=>exact HC183_3.out)
         (case side3=>repeat (exact (Kd.C_below HR184_3.out HB.out)))
         (case side4=>exact HC184_3.out)
         rintro e w13 ⟨rfl,hb⟩
         refine ⟨_,rfl,?_⟩
         have n0_:=Aside0.mk (below_step (by with_reducible exact HB.out) hb)
         clear HB
         have HB:=n0_
         clear n0_
         (try clear hb)
         (try clear hb2)
         (try clear hk)
         (try clear hi)
         refine hK.out _ _ ⟨((HB.out.cell (World.block_lt_of_cell? w _ hw183_0)).trans hw183_0),((HB.out.cell (World.block_lt_of_cell? w _ hw183_1)).trans hw183_1),((HB.out.cell (World.block_lt_of_cell? w _ hw183_2)).trans hw183_2),((HB.out.cell (World.block_lt_of_cell? w _ hw183_3)).trans hw183_3),((HB.out.cell (World.block_lt_of_cell? w _ hw184_0)).trans hw184_0),((HB.out.cell (World.block_lt_of_cell? w _ hw184_1)).trans hw184_1),((HB.out.cell (World.block_lt_of_cell? w _ hw184_2)).trans hw184_2),((HB.out.cell (World.block_lt_of_cell? w _ hw184_3)).trans hw184_3)⟩ (fun hHeld=>?_)
         clear hK K
         refine norm_ (a':=?_) ?_ ?_
         rotate_left
         ·show Act.put _ (some 24) _ = _
          simp only [Act.put,sA,sB,sC,i64_w,i32_w]
          rfl
         refine pure_ (i:=9) (N:=some 25) (v:=?_) (a':=?_) (bm 1023 10) rfl rfl (any_of HT_.out (by kernel_rfl)) (fun _ _ _ h=>h) (Or.inl ⟨by rfl,?_⟩) ?_ ?_
         rotate_left
         ·intro w'
          go_simp
          with_reducible rfl
         rotate_left
         ·simp only [Act.put,sA,sB,sC,i64_w,i32_w]
          rfl
         refine done_ (done_of HT_.out (by kernel_rfl)) ?_
         try go_wp2
         go_ret
         exact ⟨by rfl,HB.out⟩
       ·rw [if_neg c7] at H
        exact absurd H (by simp)
      ·rw [if_neg c6] at H
       exact absurd H (by simp)
     ·rw [if_neg c5] at H
      exact absurd H (by simp)
    ·rw [if_neg c4] at H
     have c4b0:decide (x13_1 < (l0.length:Int)) = false:=decide_eq_false c4
     clear c4
     obtain rfl:=Option.some.inj H
     go_wp2
     go_ret
     exact ⟨by rfl,HB.out⟩
 ·rw [if_neg c3] at H
  have c3b0:((l0.length:Int) == (l1.length:Int)) = false:=beq_eq_false_iff_ne.mpr c3
  have c3b1:((l0.length:Int) != (l1.length:Int)) = true:=bne_iff_ne.mpr c3
  have c3b2:(l0.length == l1.length) = false:=by (simp at c3 ⊢;omega)
  obtain rfl:=Option.some.inj H
  go_enter Try.func39,Try.ntmps39
  go_wp2
  go_ret
  exact ⟨by rfl,HB.out⟩
end
end Go.Proofs.Ytlcodfjlbhjkbaa.PDelta
end
section
namespace Go.Proofs.Ytlcodfjlbhjkbaa.PDelta
open Go.RowKit Go.Maps Go.Sort Go.Proofs.YtlcodfjlbhjkbaaW.PrintWords Go.Proofs.YtlcodfjlbhjkbaaW.PrintLast Go.Proofs.YtlcodfjlbhjkbaaW.PrintMore
def stLt (a b:S128):Prop:=a.f0 < b.f0 ∨ a.f0 = b.f0 ∧ a.f1 < b.f1
instance (a b:S128):Decidable (stLt a b):=by unfold stLt;infer_instance
theorem stLt.irrefl (a:S128):¬ stLt a a:=by unfold stLt;omega
theorem stLt.trans {a b c:S128} (h:stLt a b) (k:stLt b c):stLt a c:=by unfold stLt at *;omega
theorem stLt.asymm {a b:S128} (h:stLt a b):¬ stLt b a:=by unfold stLt at *;omega
def stC (a b:S128):Int:=orI (cmpI a.f0 b.f0) (cmpI a.f1 b.f1)
theorem stC_lt (a b:S128):stC a b < 0 ↔ stLt a b:=by
 unfold stC orI cmpI stLt
 by_cases h1:a.f0 < b.f0
 ·simp [h1]
 ·by_cases h2:b.f0 < a.f0
  ·rw [if_neg h1,if_pos h2];simp;omega
  ·have h3:a.f0 = b.f0:=by omega
   rw [if_neg h1,if_neg h2,if_pos rfl]
   by_cases h4:a.f1 < b.f1
   ·simp [h4,h3]
   ·rw [if_neg h4];split <;> simp <;> omega
theorem stamps_ev (a b:S128):Ev (fun k=>replica_stamps.f k a.f0 a.f1 a.f2 a.f3 a.f4 a.f5 a.f6 a.f7 b.f0 b.f1 b.f2 b.f3 b.f4 b.f5 b.f6 b.f7) (stC a b):=by
 refine Ev.of (fun k=>replica_stamps.mono _ _ _ _ _ _ _ _ _ _ _ _ _ _ _ _ k) (k:=3) ?_
 simp only [replica_stamps.f,cmpi_f,Option.bind_some,or_f]
 rfl
def PlaceOK (s:ByteArray):Prop:=Ev (fun k=>replica_Place.f k s) true
structure OpV (o:S128):Prop where
 clock:1 ≤ o.f0 ∧ o.f0 ≤ 1073741824
 site:0 ≤ o.f1 ∧ o.f1 ≤ 1000
 item:1 ≤ o.f3 ∧ o.f3 ≤ 1073741824
 kind:(o.f2 = 0 ∧ o.f6 = ⟨#[]⟩ ∧ o.f7 = ⟨#[]⟩ ∧ -1 ≤ o.f4 ∧ o.f4 ≤ 1073741824 ∧ PlaceOK o.f5) ∨ (o.f2 = 1 ∧ o.f4 = 0 ∧ o.f5 = ⟨#[]⟩ ∧ NameOK o.f6 ∧ (o.f7 = ⟨#[]⟩ ∨ ValOK o.f7))
theorem emp_nil:(⟨#[]⟩:ByteArray).toList = []:=by rw [ByteArray.toList_eq]
theorem op_ev {o:S128} (h:OpV o):Ev (fun k=>replica_op.f k o.f0 o.f1 o.f2 o.f3 o.f4 o.f5 o.f6 o.f7) 0:=by
 obtain ⟨hc,hs,hi,hk⟩:=h
 obtain ⟨o0,o1,o2,o3,o4,o5,o6,o7⟩:=o
 simp only at hc hs hi hk ⊢
 have d3:decide (o3 > 1073741824) = false:=decide_eq_false (by omega)
 have j0:∀ k,replica_op.j0 (k + 1) false o0 o1 o2 o3 o4 o5 o6 o7 = replica_op.j1 k false o0 o1 o2 o3 o4 o5 o6 o7:=fun k=>by
  rw [replica_op.j0]
  rw [if_neg (by decide),if_neg (by omega),if_neg (by omega),if_neg (by omega),if_neg (by omega),if_neg (by omega),d3]
 rcases hk with ⟨rfl,rfl,rfl,h4,h5,hp⟩ | ⟨rfl,rfl,rfl,hn,hv⟩
 ·have d4:decide (o4 > 1073741824) = false:=decide_eq_false (by omega)
  refine Ev.congr (f:=fun k=>replica_op.j0 k false o0 o1 0 o3 o4 o5 ⟨#[]⟩ ⟨#[]⟩) (fun k=>if_pos rfl) ?_
  refine Ev.step (fun k=>j0 k) (Ev.step (f:=fun k=>replica_op.j2 k false o0 o1 0 o3 o4 o5 ⟨#[]⟩ ⟨#[]⟩) (fun k=>?_) (Ev.step (f:=fun k=>replica_op.j3 k false o0 o1 0 o3 o4 o5 ⟨#[]⟩ ⟨#[]⟩) (fun k=>?_) (Ev.step (f:=fun k=>replica_op.j4 k false o0 o1 0 o3 o4 o5 ⟨#[]⟩ ⟨#[]⟩) (fun k=>?_) (Ev.step (f:=fun k=>(replica_Place.f k o5).bind fun t=>replica_op.j5 k (!t) o0 o1 0 o3 o4 o5 ⟨#[]⟩ ⟨#[]⟩) (fun k=>?_) (Ev.bind hp (Ev.step (f:=fun k=>replica_op.j6 k false o0 o1 0 o3 o4 o5 ⟨#[]⟩ ⟨#[]⟩) (fun k=>?_) (Ev.step (f:=fun _=>some 0) (fun k=>?_) (Ev.now 0))))))))
  ·rw [replica_op.j1]
   rw [if_neg (by decide),if_pos rfl,if_pos emp_nil,emp_nil]
   rfl
  ·rw [replica_op.j2]
   rw [if_neg (by decide),if_neg (by decide)]
  ·rw [replica_op.j3]
   rw [if_neg (by decide),if_pos rfl,if_neg (by omega),d4]
  ·rw [replica_op.j4]
   rw [if_neg (by decide),if_pos rfl]
  ·rw [replica_op.j5]
   rw [if_neg (by decide),if_neg (by decide)]
  ·rw [replica_op.j6]
   rw [if_neg (by decide),if_neg (by decide)]
 ·obtain ⟨b,hb,hbn⟩:=name_ev o6 (by have:=hn.2.1;omega)
  obtain rfl:b = true:=hbn.2 hn
  refine Ev.congr (f:=fun k=>replica_op.j0 k false o0 o1 1 o3 0 ⟨#[]⟩ o6 o7) (fun k=>if_neg (by decide)) ?_
  refine Ev.step (fun k=>j0 k) (Ev.step (f:=fun k=>replica_op.j2 k false o0 o1 1 o3 0 ⟨#[]⟩ o6 o7) (fun k=>?_) (Ev.step (f:=fun k=>replica_op.j3 k false o0 o1 1 o3 0 ⟨#[]⟩ o6 o7) (fun k=>?_) (Ev.step (f:=fun k=>replica_op.j4 k false o0 o1 1 o3 0 ⟨#[]⟩ o6 o7) (fun k=>?_) (Ev.step (f:=fun k=>replica_op.j5 k false o0 o1 1 o3 0 ⟨#[]⟩ o6 o7) (fun k=>?_) (Ev.step (f:=fun k=>(attr_Name.f k o6).bind fun t=>replica_op.j6 k (!t) o0 o1 1 o3 0 ⟨#[]⟩ o6 o7) (fun k=>?_) (Ev.bind hb ?_))))))
  ·rw [replica_op.j1]
   rw [if_neg (by decide),if_neg (by decide)]
  ·rw [replica_op.j2]
   rw [if_neg (by decide),if_pos rfl,if_pos rfl,emp_nil]
   rfl
  ·rw [replica_op.j3]
   rw [if_neg (by decide),if_neg (by decide)]
  ·rw [replica_op.j4]
   rw [if_neg (by decide),if_neg (by decide)]
  ·rw [replica_op.j5]
   rw [if_neg (by decide),if_pos rfl]
  ·rcases hv with rfl | hv
   ·refine Ev.step (f:=fun _=>some 0) (fun k=>?_) (Ev.now 0)
    rw [replica_op.j6]
    rw [if_neg (by decide),if_pos rfl,if_pos emp_nil]
   ·obtain ⟨c,hcv,hcn⟩:=val_ev o7 (by have:=hv.2.1;omega)
    obtain rfl:c = true:=hcn.2 hv
    refine Ev.step (f:=fun k=>(attr_Value.f k o7).bind fun t=>if t = true then some 0 else some 23) (fun k=>?_) (Ev.bind hcv (Ev.congr (fun k=>by rw [if_pos rfl]) (Ev.now 0)))
    rw [replica_op.j6]
    rw [if_neg (by decide),if_pos rfl,if_neg (fun e=>by have:=list_nil.1 e;have:=hv.1;omega)]
theorem rd128 {l:List S128} {i:Nat} (h:i < l.length):rd_T128 l (i:Int) = l[i]:=by
 rw [rd_T128,List.getD_eq_getElem?_getD]
 simp [h]
theorem dcheck_l0 (l:List S128) (hs:l.Pairwise stLt) (hv:∀ o ∈ l,OpV o) (hl:l.length ≤ 1073741824) (d:Nat):∀ i:Nat,i + d = l.length → Ev (fun k=>replica_Check.l0 k l l (l.length:Int) (i:Int)) 0:=by
 induction d with
 | zero =>
  intro i hi
  refine Ev.step (f:=fun _=>some 0) (fun k=>?_) (Ev.now 0)
  rw [replica_Check.l0]
  rw [if_neg (by omega)]
 | succ d ih =>
  intro i hi
  have hlt:i < l.length:=by omega
  have hw:wrap64 ((i:Int) + 1) = ((i + 1:Nat):Int):=by unfold wrap64;omega
  have e:=rd128 hlt
  have ho:=op_ev (hv _ (List.getElem_mem hlt))
  rw [← e] at ho
  have nx:=ih (i + 1) (by omega)
  by_cases h0:i = 0
  ·refine Ev.step (f:=fun k=>(replica_op.f k (rd_T128 l i).f0 (rd_T128 l i).f1 (rd_T128 l i).f2 (rd_T128 l i).f3 (rd_T128 l i).f4 (rd_T128 l i).f5 (rd_T128 l i).f6 (rd_T128 l i).f7).bind fun t=>if t = 0 then replica_Check.l0 k l l (l.length:Int) ((i + 1:Nat):Int) else some t) (fun k=>?_) (Ev.bind ho (Ev.congr (fun k=>by rw [if_pos rfl]) nx))
   rw [replica_Check.l0]
   rw [if_pos (by omega),if_pos (by omega),if_pos (by omega),hw]
   congr 1
   funext t
   split
   ·rw [if_neg (by omega)]
   ·rfl
  ·have hw1:wrap64 ((i:Int) - 1) = ((i - 1:Nat):Int):=by unfold wrap64;omega
   have e1:=rd128 (l:=l) (i:=i - 1) (by omega)
   have hst:stLt (rd_T128 l ((i - 1:Nat):Int)) (rd_T128 l (i:Int)):=by
    rw [e1,e]
    exact List.pairwise_iff_getElem.1 hs (i - 1) i (by omega) hlt (by omega)
   have hneg:=(stC_lt _ _).2 hst
   have hsv:=stamps_ev (rd_T128 l ((i - 1:Nat):Int)) (rd_T128 l (i:Int))
   refine Ev.step (f:=fun k=>(replica_op.f k (rd_T128 l i).f0 (rd_T128 l i).f1 (rd_T128 l i).f2 (rd_T128 l i).f3 (rd_T128 l i).f4 (rd_T128 l i).f5 (rd_T128 l i).f6 (rd_T128 l i).f7).bind fun t=>if t = 0 then (replica_stamps.f k (rd_T128 l ((i - 1:Nat):Int)).f0 (rd_T128 l ((i - 1:Nat):Int)).f1 (rd_T128 l ((i - 1:Nat):Int)).f2 (rd_T128 l ((i - 1:Nat):Int)).f3 (rd_T128 l ((i - 1:Nat):Int)).f4 (rd_T128 l ((i - 1:Nat):Int)).f5 (rd_T128 l ((i - 1:Nat):Int)).f6 (rd_T128 l ((i - 1:Nat):Int)).f7 (rd_T128 l i).f0 (rd_T128 l i).f1 (rd_T128 l i).f2 (rd_T128 l i).f3 (rd_T128 l i).f4 (rd_T128 l i).f5 (rd_T128 l i).f6 (rd_T128 l i).f7).bind (fun s=>if s ≥ 0 then some 5 else replica_Check.l0 k l l (l.length:Int) ((i + 1:Nat):Int)) else some t) (fun k=>?_) (Ev.bind ho (Ev.congr (fun k=>by rw [if_pos rfl]) (Ev.bind hsv (Ev.congr (fun k=>by rw [if_neg (by omega)]) nx))))
   rw [replica_Check.l0]
   rw [if_pos (by omega),if_pos (by omega),if_pos (by omega),hw,hw1]
   congr 1
   funext t
   split
   ·rw [if_pos (by omega),if_pos (by omega),if_pos (by omega)]
   ·rfl
theorem dcheck_ev {l:List S128} (hs:l.Pairwise stLt) (hv:∀ o ∈ l,OpV o) (hl:l.length ≤ 1073741824):Ev (fun k=>replica_Check.f k l) 0:=dcheck_l0 l hs hv hl l.length 0 (by omega)
def mergeS:List S128 → List S128 → List S128
 | [],b=>b
 | x :: a,[]=>x :: a
 | x :: a,y :: b=>if stLt x y then x :: mergeS a (y :: b) else if stLt y x then y :: mergeS (x :: a) b else x :: mergeS a b
termination_by a b=>a.length + b.length
def OneSt (U:List S128):Prop:=∀ x ∈ U,∀ y ∈ U,¬ stLt x y → ¬ stLt y x → x = y
theorem mergeS_nil (a:List S128):mergeS a [] = a:=by cases a <;> simp [mergeS]
theorem mergeS_mem {U:List S128} (hU:OneSt U):∀ (a b:List S128),(∀ x ∈ a,x ∈ U) → (∀ x ∈ b,x ∈ U) → ∀ z,z ∈ mergeS a b ↔ z ∈ a ∨ z ∈ b:=by
 intro a b
 induction a,b using mergeS.induct with
 | case1 b=>intro _ _ z;simp [mergeS]
 | case2 x a=>intro _ _ z;simp [mergeS]
 | case3 x a y b h ih =>
  intro ha hb z
  rw [mergeS,if_pos h,List.mem_cons,ih (fun w hw=>ha w (List.mem_cons_of_mem _ hw)) hb]
  simp only [List.mem_cons,or_assoc]
 | case4 x a y b h h' ih =>
  intro ha hb z
  rw [mergeS,if_neg h,if_pos h',List.mem_cons,ih ha (fun w hw=>hb w (List.mem_cons_of_mem _ hw))]
  simp only [List.mem_cons]
  constructor
  ·rintro (h | (h | h) | h)
   ·exact .inr (.inl h)
   ·exact .inl (.inl h)
   ·exact .inl (.inr h)
   ·exact .inr (.inr h)
  ·rintro ((h | h) | (h | h))
   ·exact .inr (.inl (.inl h))
   ·exact .inr (.inl (.inr h))
   ·exact .inl h
   ·exact .inr (.inr h)
 | case5 x a y b h h' ih =>
  intro ha hb z
  have e:x = y:=hU x (ha x List.mem_cons_self) y (hb y List.mem_cons_self) h h'
  subst e
  rw [mergeS,if_neg h,if_neg h',List.mem_cons,ih (fun w hw=>ha w (List.mem_cons_of_mem _ hw)) (fun w hw=>hb w (List.mem_cons_of_mem _ hw))]
  simp only [List.mem_cons]
  constructor
  ·rintro (h | h | h)
   ·exact .inl (.inl h)
   ·exact .inl (.inr h)
   ·exact .inr (.inr h)
  ·rintro ((h | h) | (h | h))
   ·exact .inl h
   ·exact .inr (.inl h)
   ·exact .inl h
   ·exact .inr (.inr h)
theorem mergeS_sorted {U:List S128} (hU:OneSt U):∀ (a b:List S128),(∀ x ∈ a,x ∈ U) → (∀ x ∈ b,x ∈ U) → a.Pairwise stLt → b.Pairwise stLt → (mergeS a b).Pairwise stLt:=by
 intro a b
 induction a,b using mergeS.induct with
 | case1 b=>intro _ _ _ h;simpa [mergeS] using h
 | case2 x a=>intro _ _ h _;simpa [mergeS] using h
 | case3 x a y b h ih =>
  intro ha hb sa sb
  rw [List.pairwise_cons] at sa
  rw [mergeS,if_pos h,List.pairwise_cons]
  refine ⟨fun z hz=>?_,ih (fun w hw=>ha w (List.mem_cons_of_mem _ hw)) hb sa.2 sb⟩
  rcases (mergeS_mem hU a (y :: b) (fun w hw=>ha w (List.mem_cons_of_mem _ hw)) hb z).1 hz with hz | hz
  ·exact sa.1 z hz
  ·rcases List.mem_cons.1 hz with rfl | hz
   ·exact h
   ·exact h.trans ((List.pairwise_cons.1 sb).1 z hz)
 | case4 x a y b h h' ih =>
  intro ha hb sa sb
  rw [List.pairwise_cons] at sb
  rw [mergeS,if_neg h,if_pos h',List.pairwise_cons]
  refine ⟨fun z hz=>?_,ih ha (fun w hw=>hb w (List.mem_cons_of_mem _ hw)) sa sb.2⟩
  rcases (mergeS_mem hU (x :: a) b ha (fun w hw=>hb w (List.mem_cons_of_mem _ hw)) z).1 hz with hz | hz
  ·rcases List.mem_cons.1 hz with rfl | hz
   ·exact h'
   ·exact h'.trans ((List.pairwise_cons.1 sa).1 z hz)
  ·exact sb.1 z hz
 | case5 x a y b h h' ih =>
  intro ha hb sa sb
  have e:x = y:=hU x (ha x List.mem_cons_self) y (hb y List.mem_cons_self) h h'
  rw [List.pairwise_cons] at sa sb
  rw [mergeS,if_neg h,if_neg h',List.pairwise_cons]
  refine ⟨fun z hz=>?_,ih (fun w hw=>ha w (List.mem_cons_of_mem _ hw)) (fun w hw=>hb w (List.mem_cons_of_mem _ hw)) sa.2 sb.2⟩
  rcases (mergeS_mem hU a b (fun w hw=>ha w (List.mem_cons_of_mem _ hw)) (fun w hw=>hb w (List.mem_cons_of_mem _ hw)) z).1 hz with hz | hz
  ·exact sa.1 z hz
  ·rw [e];exact sb.1 z hz
theorem mergeS_len:∀ (a b:List S128),(mergeS a b).length ≤ a.length + b.length:=by
 intro a b
 induction a,b using mergeS.induct with
 | case1 b=>simp [mergeS]
 | case2 x a=>simp [mergeS]
 | case3 x a y b h ih=>rw [mergeS,if_pos h];simp only [List.length_cons] at *;omega
 | case4 x a y b h h' ih=>rw [mergeS,if_neg h,if_pos h'];simp only [List.length_cons] at *;omega
 | case5 x a y b h h' ih=>rw [mergeS,if_neg h,if_neg h'];simp only [List.length_cons] at *;omega
theorem sorted_ext:∀ (a b:List S128),a.Pairwise stLt → b.Pairwise stLt → (∀ z,z ∈ a ↔ z ∈ b) → a = b
 | [],[],_,_,_=>rfl
 | [],y :: b,_,_,h=>by have:=(h y).2 List.mem_cons_self;cases this
 | x :: a,[],_,_,h=>by have:=(h x).1 List.mem_cons_self;cases this
 | x :: a,y :: b,ha,hb,h=>by
  rw [List.pairwise_cons] at ha hb
  have e:x = y:=by
   rcases List.mem_cons.1 ((h x).1 List.mem_cons_self) with e | h1
   ·exact e
   ·rcases List.mem_cons.1 ((h y).2 List.mem_cons_self) with e | h2
    ·exact e.symm
    ·exact absurd (hb.1 x h1) (ha.1 y h2).asymm
  subst e
  rw [sorted_ext a b ha.2 hb.2 (fun z=>?_)]
  constructor
  ·intro hz
   rcases List.mem_cons.1 ((h z).1 (List.mem_cons_of_mem _ hz)) with rfl | h1
   ·exact absurd (ha.1 z hz) (stLt.irrefl z)
   ·exact h1
  ·intro hz
   rcases List.mem_cons.1 ((h z).2 (List.mem_cons_of_mem _ hz)) with rfl | h1
   ·exact absurd (hb.1 z hz) (stLt.irrefl z)
   ·exact h1
theorem rd0 (x:S128) (a:List S128):rd_T128 (x :: a) 0 = x:=rfl
theorem op_same (x:S128):(!((x.f0) == (x.f0)) || (!((x.f1) == (x.f1)) || (!((x.f2) == (x.f2)) || (!((x.f3) == (x.f3)) || (!((x.f4) == (x.f4)) || (!(((x.f5).toList) == ((x.f5).toList)) || (!(((x.f6).toList) == ((x.f6).toList)) || (!(((x.f7).toList) == ((x.f7).toList)))))))))) = false:=by simp
theorem both_l0 {U:List S128} (hU:OneSt U):∀ (a b:List S128),(∀ x ∈ a,x ∈ U) → (∀ x ∈ b,x ∈ U) → ∀ out:List S128,out.length + a.length + b.length ≤ 1073741824 → Ev (fun k=>replica_Both.l0 k a b out) (out ++ mergeS a b,0):=by
 intro a b
 induction a,b using mergeS.induct with
 | case1 b =>
  intro _ hb
  rw [mergeS]
  induction b with
  | nil =>
   intro out _
   rw [List.append_nil]
   refine Ev.step (f:=fun k=>replica_Both.j1 k [] [] out false) (fun k=>?_) (Ev.step (f:=fun _=>some (out,0)) (fun k=>?_) (Ev.now _))
   ·rw [replica_Both.l0];rw [if_neg (by simp only [List.length_cons,List.length_nil];omega)];rfl
   ·rw [replica_Both.j1];rw [if_neg (by decide)]
  | cons y b ih =>
   intro out ho
   simp only [List.length_cons,List.length_nil] at ho
   have nx:=ih (fun w hw=>hb w (List.mem_cons_of_mem _ hw)) (out ++ [y]) (by simp only [List.length_append,List.length_cons,List.length_nil];omega)
   rw [List.append_assoc] at nx
   refine Ev.step (f:=fun k=>replica_Both.j1 k [] (y :: b) out true) (fun k=>?_) (Ev.step (f:=fun k=>replica_Both.j2 k [] (y :: b) out false) (fun k=>?_) (Ev.step (f:=fun k=>replica_Both.j3 k [] (y :: b) out true) (fun k=>?_) (Ev.step (f:=fun k=>replica_Both.l0 k [] b (out ++ [y])) (fun k=>?_) nx)))
   ·rw [replica_Both.l0];rw [if_neg (by simp only [List.length_cons,List.length_nil];omega),decide_eq_true (by simp only [List.length_cons,List.length_nil];omega)]
   ·rw [replica_Both.j1];rw [if_pos rfl,if_neg (by simp only [List.length_cons,List.length_nil];omega),if_neg (by simp only [List.length_cons,List.length_nil];omega)]
   ·rw [replica_Both.j2];rw [if_neg (by decide),if_pos (by simp only [List.length_cons,List.length_nil];omega)]
   ·rw [replica_Both.j3];rw [if_pos rfl,if_pos (by simp only [List.length_cons,List.length_nil];omega),if_pos (by omega),if_pos (by simp only [List.length_cons,List.length_nil];omega)];rfl
 | case2 x a =>
  intro ha _
  have ha':=ha
  clear ha
  rw [mergeS_nil]
  generalize hq:x :: a = q at ha'
  clear hq x a
  induction q with
  | nil =>
   intro out _
   rw [List.append_nil]
   refine Ev.step (f:=fun k=>replica_Both.j1 k [] [] out false) (fun k=>?_) (Ev.step (f:=fun _=>some (out,0)) (fun k=>?_) (Ev.now _))
   ·rw [replica_Both.l0];rw [if_neg (by simp only [List.length_cons,List.length_nil];omega)];rfl
   ·rw [replica_Both.j1];rw [if_neg (by decide)]
  | cons x a ih =>
   intro out ho
   simp only [List.length_cons,List.length_nil] at ho
   have nx:=ih (fun w hw=>ha' w (List.mem_cons_of_mem _ hw)) (out ++ [x]) (by simp only [List.length_append,List.length_cons,List.length_nil];omega)
   rw [List.append_assoc] at nx
   refine Ev.step (f:=fun k=>replica_Both.j1 k (x :: a) [] out true) (fun k=>?_) (Ev.step (f:=fun k=>replica_Both.j2 k (x :: a) [] out true) (fun k=>?_) (Ev.step (f:=fun k=>replica_Both.l0 k a [] (out ++ [x])) (fun k=>?_) nx))
   ·rw [replica_Both.l0];rw [if_pos (by simp only [List.length_cons,List.length_nil];omega)]
   ·rw [replica_Both.j1];rw [if_pos rfl,if_pos (by simp only [List.length_cons,List.length_nil];omega)]
   ·rw [replica_Both.j2];rw [if_pos rfl,if_pos (by simp only [List.length_cons,List.length_nil];omega),if_pos (by omega),if_pos (by simp only [List.length_cons,List.length_nil];omega)];rfl
 | case3 x a y b h ih =>
  intro ha hb out ho
  simp only [List.length_cons] at ho
  have nx:=ih (fun w hw=>ha w (List.mem_cons_of_mem _ hw)) hb (out ++ [x]) (by simp only [List.length_append,List.length_cons,List.length_nil];omega)
  rw [List.append_assoc] at nx
  rw [mergeS,if_pos h]
  have hst:=stamps_ev x y
  refine Ev.step (f:=fun k=>replica_Both.j1 k (x :: a) (y :: b) out true) (fun k=>?_) (Ev.step (f:=fun k=>(replica_stamps.f k x.f0 x.f1 x.f2 x.f3 x.f4 x.f5 x.f6 x.f7 y.f0 y.f1 y.f2 y.f3 y.f4 y.f5 y.f6 y.f7).bind fun t=>replica_Both.j2 k (x :: a) (y :: b) out (decide (t < 0))) (fun k=>?_) (Ev.bind hst (Ev.congr (f:=fun k=>replica_Both.j2 k (x :: a) (y :: b) out true) (fun k=>by rw [decide_eq_true ((stC_lt x y).2 h)]) (Ev.step (f:=fun k=>replica_Both.l0 k a (y :: b) (out ++ [x])) (fun k=>?_) nx))))
  ·rw [replica_Both.l0];rw [if_pos (by simp only [List.length_cons,List.length_nil];omega)]
  ·rw [replica_Both.j1];rw [if_pos rfl,if_neg (by simp only [List.length_cons,List.length_nil];omega),if_pos (by simp only [List.length_cons,List.length_nil];omega),if_pos (by simp only [List.length_cons,List.length_nil];omega),if_pos (by simp only [List.length_cons,List.length_nil];omega)];rfl
  ·rw [replica_Both.j2];rw [if_pos rfl,if_pos (by simp only [List.length_cons,List.length_nil];omega),if_pos (by omega),if_pos (by simp only [List.length_cons,List.length_nil];omega)];rfl
 | case4 x a y b h h' ih =>
  intro ha hb out ho
  simp only [List.length_cons] at ho
  have nx:=ih ha (fun w hw=>hb w (List.mem_cons_of_mem _ hw)) (out ++ [y]) (by simp only [List.length_append,List.length_cons,List.length_nil];omega)
  rw [List.append_assoc] at nx
  rw [mergeS,if_neg h,if_pos h']
  have hst:=stamps_ev x y
  have hst':=stamps_ev y x
  refine Ev.step (f:=fun k=>replica_Both.j1 k (x :: a) (y :: b) out true) (fun k=>?_) (Ev.step (f:=fun k=>(replica_stamps.f k x.f0 x.f1 x.f2 x.f3 x.f4 x.f5 x.f6 x.f7 y.f0 y.f1 y.f2 y.f3 y.f4 y.f5 y.f6 y.f7).bind fun t=>replica_Both.j2 k (x :: a) (y :: b) out (decide (t < 0))) (fun k=>?_) (Ev.bind hst (Ev.congr (f:=fun k=>replica_Both.j2 k (x :: a) (y :: b) out false) (fun k=>by rw [decide_eq_false (fun e=>h ((stC_lt x y).1 e))]) (Ev.step (f:=fun k=>(replica_stamps.f k y.f0 y.f1 y.f2 y.f3 y.f4 y.f5 y.f6 y.f7 x.f0 x.f1 x.f2 x.f3 x.f4 x.f5 x.f6 x.f7).bind fun t=>replica_Both.j3 k (x :: a) (y :: b) out (decide (t < 0))) (fun k=>?_) (Ev.bind hst' (Ev.congr (f:=fun k=>replica_Both.j3 k (x :: a) (y :: b) out true) (fun k=>by rw [decide_eq_true ((stC_lt y x).2 h')]) (Ev.step (f:=fun k=>replica_Both.l0 k (x :: a) b (out ++ [y])) (fun k=>?_) nx)))))))
  ·rw [replica_Both.l0];rw [if_pos (by simp only [List.length_cons,List.length_nil];omega)]
  ·rw [replica_Both.j1];rw [if_pos rfl,if_neg (by simp only [List.length_cons,List.length_nil];omega),if_pos (by simp only [List.length_cons,List.length_nil];omega),if_pos (by simp only [List.length_cons,List.length_nil];omega),if_pos (by simp only [List.length_cons,List.length_nil];omega)];rfl
  ·rw [replica_Both.j2];rw [if_neg (by decide),if_neg (by simp only [List.length_cons,List.length_nil];omega),if_pos (by simp only [List.length_cons,List.length_nil];omega),if_pos (by simp only [List.length_cons,List.length_nil];omega)];rfl
  ·rw [replica_Both.j3];rw [if_pos rfl,if_pos (by simp only [List.length_cons,List.length_nil];omega),if_pos (by omega),if_pos (by simp only [List.length_cons,List.length_nil];omega)];rfl
 | case5 x a y b h h' ih =>
  intro ha hb out ho
  simp only [List.length_cons] at ho
  have e:x = y:=hU x (ha x List.mem_cons_self) y (hb y List.mem_cons_self) h h'
  have nx:=ih (fun w hw=>ha w (List.mem_cons_of_mem _ hw)) (fun w hw=>hb w (List.mem_cons_of_mem _ hw)) (out ++ [x]) (by simp only [List.length_append,List.length_cons,List.length_nil];omega)
  rw [List.append_assoc] at nx
  rw [mergeS,if_neg h,if_neg h']
  have hst:=stamps_ev x y
  have hst':=stamps_ev y x
  subst e
  refine Ev.step (f:=fun k=>replica_Both.j1 k (x :: a) (x :: b) out true) (fun k=>?_) (Ev.step (f:=fun k=>(replica_stamps.f k x.f0 x.f1 x.f2 x.f3 x.f4 x.f5 x.f6 x.f7 x.f0 x.f1 x.f2 x.f3 x.f4 x.f5 x.f6 x.f7).bind fun t=>replica_Both.j2 k (x :: a) (x :: b) out (decide (t < 0))) (fun k=>?_) (Ev.bind hst (Ev.congr (f:=fun k=>replica_Both.j2 k (x :: a) (x :: b) out false) (fun k=>by rw [decide_eq_false (fun e=>h ((stC_lt x x).1 e))]) (Ev.step (f:=fun k=>(replica_stamps.f k x.f0 x.f1 x.f2 x.f3 x.f4 x.f5 x.f6 x.f7 x.f0 x.f1 x.f2 x.f3 x.f4 x.f5 x.f6 x.f7).bind fun t=>replica_Both.j3 k (x :: a) (x :: b) out (decide (t < 0))) (fun k=>?_) (Ev.bind hst' (Ev.congr (f:=fun k=>replica_Both.j3 k (x :: a) (x :: b) out false) (fun k=>by rw [decide_eq_false (fun e=>h ((stC_lt x x).1 e))]) (Ev.step (f:=fun k=>replica_Both.l0 k a b (out ++ [x])) (fun k=>?_) nx)))))))
  ·rw [replica_Both.l0];rw [if_pos (by simp only [List.length_cons,List.length_nil];omega)]
  ·rw [replica_Both.j1];rw [if_pos rfl,if_neg (by simp only [List.length_cons,List.length_nil];omega),if_pos (by simp only [List.length_cons,List.length_nil];omega),if_pos (by simp only [List.length_cons,List.length_nil];omega),if_pos (by simp only [List.length_cons,List.length_nil];omega)];rfl
  ·rw [replica_Both.j2];rw [if_neg (by decide),if_neg (by simp only [List.length_cons,List.length_nil];omega),if_pos (by simp only [List.length_cons,List.length_nil];omega),if_pos (by simp only [List.length_cons,List.length_nil];omega)];rfl
  ·rw [replica_Both.j3,rd0,rd0];rw [if_neg (by decide),if_pos (by simp only [List.length_cons,List.length_nil];omega),if_pos (by simp only [List.length_cons,List.length_nil];omega),op_same,if_neg (by decide),if_pos (by omega),if_pos (by simp only [List.length_cons,List.length_nil];omega),if_pos (by simp only [List.length_cons,List.length_nil];omega)];rfl
end Go.Proofs.Ytlcodfjlbhjkbaa.PDelta
end
section
namespace Go.Proofs.Ytlcodfjlbhjkbaa.PDelta
open Go.RowKit Go.Proofs.YtlcodfjlbhjkbaaW.PrintWords Go.Proofs.YtlcodfjlbhjkbaaW.PrintLast Go.Proofs.YtlcodfjlbhjkbaaW.PrintMore
structure DiceSt (w0:World) (g:Nat) (raw:List Int) (u:Nat) (w:World):Prop where
 ex:∃ (A:Option Addr) (c:Nat),w.heap[g]? = some (.cells #[.slice A raw.length c,.int .i64 (u:Int)] 79 (0,0)) ∧ Kd.C (Kd.int .i64) w0 A raw.length raw ∧ raw.length ≤ c
theorem wrap_mid {i:Int} (h0:0 ≤ i) (h:i ≤ 4611686018427387904):wrap64 i = i:=by unfold wrap64;omega
theorem wrap_k {i:Int} (h0:0 ≤ i) (h:i ≤ 4611686018427387904):IntKind.i64.wrap i = i:=by rw [i64_w];exact wrap_mid h0 h
theorem add_block (a:Addr) (n:Nat):(a.add n).block = a.block:=by unfold Go.Addr.add;split <;> rfl
def rollF (raw:List Int) (u:Nat) (n:Int):Option Int :=
 if raw.length = 0 then some 0 else chanceryref1_Within.f (wrap64 (rd raw ((u % raw.length:Nat):Int) + (((u + 1) / raw.length:Nat):Int))) 0 (wrap64 (n - 1))
def rollU (raw:List Int) (u:Nat):Nat:=if raw.length = 0 then u else u + 1
set_option maxRecDepth 100000 in
set_option maxHeartbeats 4000000 in
theorem roll_calls (w0:World) (g:Nat) (raw:List Int) (u:Nat) (n r:Int) (w:World) (h0:w0.heap.size ≤ g) (h:DiceSt w0 g raw u w) (hB:Below w0.heap.size w0 w) (hu:u < 4611686018427387904) (hf:rollF raw u n = some r) :
 Calls Try.prog 40 #[.pointer (some ⟨g,0,none⟩),.int .i64 n] w fun e w'=>e = .returned (.int .i64 r) ∧ DiceSt w0 g raw (rollU raw u) w' ∧ (w.heap.size ≤ w'.heap.size ∧ ∀ k,k < w.heap.size → k ≠ g → w'.heap[k]? = w.heap[k]?) ∧ Below w0.heap.size w0 w':=by
 have hu79:=Try.underlying79
 obtain ⟨A,c,hb,hC,hc⟩:=h.ex
 have hc0:w.cell? ⟨g,0,none⟩ = some (.slice A raw.length c):=(blk_cell hb 0).trans rfl
 have hc1:w.cell? ⟨g,1,none⟩ = some (.int .i64 (u:Int)):=(blk_cell hb 1).trans rfl
 have hf1:=blk_frozen hb 1
 have HB:=Aside0.mk hB
 have HC:=Aside0.mk hC
 have HBL:=Aside0.mk hb
 have HCC:=Aside0.mk hc
 have H0:=Aside0.mk h0
 have HS:=Aside0.mk h
 clear h hb hC hB hc h0
 by_cases c1:raw.length = 0
 ·have e':rollU raw u = u:=if_pos c1
  rw [rollF,if_pos c1] at hf
  injection hf with hf
  subst hf
  have c1b:((raw.length:Int) == 0) = true:=beq_iff_eq.mpr (by omega)
  have c1c:(raw.length == 0) = true:=beq_iff_eq.mpr c1
  rw [e']
  clear e' c1
  go_enter Try.func40,Try.ntmps40
  go_wp2
  go_ret
  exact ⟨rfl,HS.out,⟨Nat.le_refl _,fun _ _ _=>rfl⟩,HB.out⟩
 ·have e':rollU raw u = u + 1:=if_neg c1
  rw [rollF,if_neg c1] at hf
  have c1b:((raw.length:Int) == 0) = false:=beq_eq_false_iff_ne.mpr (by omega)
  have c1c:(raw.length == 0) = false:=beq_eq_false_iff_ne.mpr c1
  rw [e']
  have hlen:0 < raw.length:=by omega
  have hm':u % raw.length < raw.length:=Nat.mod_lt _ hlen
  have hmu:u % raw.length ≤ u:=Nat.mod_le _ _
  have hqu:(u + 1) / raw.length ≤ u + 1:=Nat.div_le_self _ _
  have t1:Int.tmod (u:Int) (raw.length:Int) = ((u % raw.length:Nat):Int):=rfl
  have t2:Int.tdiv ((u:Int) + 1) (raw.length:Int) = (((u + 1) / raw.length:Nat):Int):=rfl
  obtain ⟨m,hm⟩:∃ m,m = u % raw.length:=⟨_,rfl⟩
  obtain ⟨q,hq⟩:∃ q,q = (u + 1) / raw.length:=⟨_,rfl⟩
  rw [← hm] at t1 hf hm' hmu
  rw [← hq] at t2 hf hqu
  clear hm hq
  obtain ⟨ad0,e0,hx0⟩:=Kd.at_int HC.out (m:Int) (by omega) (by omega)
  cases e0
  have HGN:Aside0 (g ≠ ad0.block):=⟨fun e=>by have:=World.block_lt_of_cell? w0 _ hx0;have:=H0.out;rw [add_block] at *;omega⟩
  replace hx0:=(HB.out.cell (World.block_lt_of_cell? w0 _ hx0)).trans hx0
  replace hx0:=(World.cell?_setCell_far w ⟨g,1,none⟩ (ad0.add ((m:Int)).toNat) (.int .i64 ((u:Int) + 1)) (by rw [add_block];exact HGN.out)).trans hx0
  simp only [Int.toNat_natCast] at hx0
  have w1:wrap64 ((u:Int) + 1) = (u:Int) + 1:=wrap_mid (by omega) (by omega)
  have w2:wrap64 (((u:Int) + 1) - 1) = (u:Int):=by rw [Int.add_sub_cancel];exact wrap_mid (by omega) (by omega)
  have w3:IntKind.i64.wrap (u:Int) = (u:Int):=wrap_k (by omega) (by omega)
  have w5:IntKind.i64.wrap (m:Int) = (m:Int):=wrap_k (by omega) (by omega)
  have w6:IntKind.i64.wrap (q:Int) = (q:Int):=wrap_k (by omega) (by omega)
  have HF:=Aside0.mk hf
  have q0:(m:Int) < (raw.length:Int):=by omega
  have q1:m < raw.length:=by omega
  have c1d:¬ ((raw.length:Int) = 0):=by omega
  clear e' hf hu hmu hqu
  go_enter Try.func40,Try.ntmps40
  go_wp2
  refine wp_region_still_tail 30 (by kernel_rfl) (by kernel_rfl) ?_
  simp only [List.take_succ_cons,List.take_zero,List.drop_succ_cons,List.drop_zero]
  change wpStill _ _ (World.drew _) (fun a'=>wpList _ _ _ _ a' (World.drew _)) _ _
  repeat still_step
  refine wpStill_nil ?_
  go_wp2_with (go_at_call 20;(with_reducible refine (chanceryref1_Within.calls _ _ _ r _ HF.out).mono ?_);rintro e1 w5 ⟨rfl,hd⟩;have HDR:=Aside0.mk hd;clear hd)
  go_ret
  have hs:w.heap.size = (w.setCell ⟨g,1,none⟩ (.int .i64 ((u:Int) + 1))).heap.size:=by simp [World.setCell]
  have hbb:=Below.refl (w.setCell ⟨g,1,none⟩ (.int .i64 ((u:Int) + 1))).heap.size (w.setCell ⟨g,1,none⟩ (.int .i64 ((u:Int) + 1)))
  have hbd:=below_step (below_drew1 hbb) HDR.out.below
  refine ⟨rfl,⟨_,_,(hbd.block g (by rw [← hs];exact blk_lt HBL.out)).trans (blk_put HBL.out 1 _ rfl),HC.out,HCC.out⟩,⟨by rw [hs];exact hbd.size,fun k hk hg=>?_⟩,below_step (below_set HB.out H0.out) hbd⟩
  rw [hbd.block k (by rw [← hs];exact hk),Below.heap_setCell _ _ _ _ hg]
section
variable {ok:Nat → Prop} {w0 wI w w1:World} {g:Nat} {vI uI v u v1 u1:Value} {out out':List S95} {add add':List S26} {cut:Int}
end
section
variable {ok:Nat → Prop} {w0 wI w w1:World} {g:Nat} {vI uI v u v1 u1:Value} {out out':List S95} {add add':List S26} {cut:Int}
end
end Go.Proofs.Ytlcodfjlbhjkbaa.PDelta
end
section
namespace Go.Proofs.Ytlcodfjlbhjkbaa.PDelta
open Go.RowKit Go.Proofs.YtlcodfjlbhjkbaaW.PrintWords Go.Proofs.YtlcodfjlbhjkbaaW.PrintLast Go.Proofs.YtlcodfjlbhjkbaaW.PrintMore
open Go.RowKit Go.Proofs.YtlcodfjlbhjkbaaW.PrintWords Go.Proofs.YtlcodfjlbhjkbaaW.PrintLast Go.Proofs.YtlcodfjlbhjkbaaW.PrintMore
open Go.RowKit Go.Proofs.YtlcodfjlbhjkbaaW.PrintWords Go.Proofs.YtlcodfjlbhjkbaaW.PrintLast Go.Proofs.YtlcodfjlbhjkbaaW.PrintMore
end Go.Proofs.Ytlcodfjlbhjkbaa.PDelta
end
section
namespace Go.Proofs.Ytlcodfjlbhjkbaa.PDelta
open Go.RowKit Go.Proofs.YtlcodfjlbhjkbaaW.PrintWords Go.Proofs.YtlcodfjlbhjkbaaW.PrintLast Go.Proofs.YtlcodfjlbhjkbaaW.PrintMore
section
variable {w wr w1:World} {ga:Nat} {cs:Array Value} {out out':List S95} {adds adds':List S26} {v u v1 u1:Value}
end
section
variable {w wr w1:World} {ga gd n:Nat} {raw:List Int} {As As':List (List S26)} {Cs Cs':List Bool} {Ts Ts':List (List S91)} {cA cB cC vA vB vC u u1 v1 lv:Value} {al al':List S26} {l:List S91}
theorem DiceSt.block (h:DiceSt w gd raw n wr) (hb:w1.heap[gd]? = wr.heap[gd]?):DiceSt w gd raw n w1:=by
 obtain ⟨A,c,hk,hC,hc⟩:=h.ex
 exact ⟨A,c,hb.trans hk,hC,hc⟩
theorem DiceSt.typed (h:DiceSt w gd raw n wr):∃ cs,wr.heap[gd]? = some (.cells cs 79 (0,0)):=by
 obtain ⟨A,c,hk,hC,hc⟩:=h.ex
 exact ⟨_,hk⟩
theorem r_keep {α:Type} {d:Kd α} {e t:Nat} {base:Nat} {ok:Nat → Prop} {v:Value} {xs:List α} {cs:Array Value} {g:Nat} (h:d.R e wr base ok v xs) (hg:wr.heap[g]? = some (.cells cs t (0,0))) (ht:∀ q,q ∈ e :: d.E → q ≠ t) (hfr:∀ k,k < wr.heap.size → k ≠ g → w1.heap[k]? = wr.heap[k]?):d.R e w1 base ok v xs :=
 Kd.R_mono (Kd.R_step (Kd.R_types h hg ht) (fun k hk hlt=>hfr k hlt hk.2)) (fun _ hk=>hk.1)
end
end Go.Proofs.Ytlcodfjlbhjkbaa.PDelta
end
section
namespace Go.Proofs.Ytlcodfjlbhjkbaa.PDelta
open Go.RowKit Go.Proofs.YtlcodfjlbhjkbaaW.PrintWords Go.Proofs.YtlcodfjlbhjkbaaW.PrintLast Go.Proofs.YtlcodfjlbhjkbaaW.PrintMore
end Go.Proofs.Ytlcodfjlbhjkbaa.PDelta
end
section
namespace Go.Proofs.Ytlcodfjlbhjkbaa.PDelta
open Go.RowKit Go.Proofs.YtlcodfjlbhjkbaaW.PrintWords Go.Proofs.YtlcodfjlbhjkbaaW.PrintLast Go.Proofs.YtlcodfjlbhjkbaaW.PrintMore
section
variable {w wr w1:World} {g:Nat} {As As':List (List S26)} {Cs Cs':List Bool} {Ts Ts':List (List S91)} {cA cB cC vA vB vC v1:Value}
end
section
variable {w wr w1:World} {g gs:Nat} {As As':List (List S26)} {Cs Cs':List Bool} {Ts Ts':List (List S91)} {cA cB cC vA vB vC v1:Value} {x:S95} {A2 A3:Option Addr} {c2 c3:Nat}
end
section
variable {w wr w1:World} {g gs ba ca:Nat} {As:List (List S26)} {Cs:List Bool} {Ts:List (List S91)} {cA cB cC vA vB vC:Value} {x:S95} {A2 A3:Option Addr} {c2 c3:Nat}
end
section
variable {α:Type} {d:Kd α} {e base n ca ba:Nat} {wr w1:World} {ok okp:Nat → Prop} {xs:List α} {v:Value}
end
section
variable {w wr w1:World} {g:Nat} {As As':List (List S26)} {Cs Cs':List Bool} {Ts Ts':List (List S91)} {vA vB vC:Value}
end
theorem grown_below {w w1:World} (hg:w.grownBy w1 none):Below w.heap.size w w1:=(pw_below_grown (Below.refl _ _) none (Nat.le_refl _) hg (fun _ hk=>by cases hk))
section
variable {w wr w1:World} {g gs:Nat} {As:List (List S26)} {Cs:List Bool} {Ts:List (List S91)} {vA vB vC:Value} {x:S95} {A2 A3:Option Addr} {c2 c3:Nat}
end
def xyS (d:Int):ByteArray:=rdOf ByteArray.empty [⟨#[120]⟩,⟨#[121]⟩] d
def noS (d:Int):ByteArray:=rdOf ByteArray.empty [⟨#[]⟩,⟨#[49]⟩,⟨#[50]⟩] d
def plS (d:Int):ByteArray:=rdOf ByteArray.empty [⟨#[98]⟩,⟨#[99]⟩,⟨#[100]⟩] d
def paintF (raw:List Int) (site:Int) (i u:Nat):Option (S128 × Nat) :=
 (rollF raw u 2).bind fun a=>(rollF raw (rollU raw u) 6).bind fun b=>(rollF raw (rollU raw (rollU raw u)) 3).bind fun c =>
  if c = 0 then (rollF raw (rollU raw (rollU raw (rollU raw u))) 2).bind fun d=>(rollF raw (rollU raw (rollU raw (rollU raw (rollU raw u)))) 3).bind fun e =>
   some (⟨1 + (i:Int) * 2 + a,site,1,1 + b,0,⟨#[]⟩,xyS d,noS e⟩,rollU raw (rollU raw (rollU raw (rollU raw (rollU raw u)))))
  else (rollF raw (rollU raw (rollU raw (rollU raw u))) 8).bind fun d=>(rollF raw (rollU raw (rollU raw (rollU raw (rollU raw u)))) 3).bind fun e =>
   some (⟨1 + (i:Int) * 2 + a,site,0,1 + b,d - 1,plS e,⟨#[]⟩,⟨#[]⟩⟩,rollU raw (rollU raw (rollU raw (rollU raw (rollU raw u)))))
def paintsL (raw:List Int) (site:Int):Nat → Nat → Nat → List S128 → Option (List S128)
 | 0,_,_,out=>some out
 | n + 1,i,u,out=>(paintF raw site i u).bind fun p=>paintsL raw site n (i + 1) p.2 (out ++ [p.1])
def paintsF (raw:List Int) (site:Int):Option (List S128):=paintsL raw site (min raw.length 12) 0 0 []
theorem roll_range {raw:List Int} {u:Nat} {n x:Int} (hn:1 ≤ n) (hn2:n ≤ 1000) (h:rollF raw u n = some x):0 ≤ x ∧ x < n:=by
 unfold rollF at h
 split at h
 ·injection h with h;omega
 ·rw [show wrap64 (n - 1) = n - 1 by unfold wrap64;omega] at h
  obtain ⟨q,hq⟩:∃ q,q = wrap64 (rd raw ((u % raw.length:Nat):Int) + (((u + 1) / raw.length:Nat):Int)):=⟨_,rfl⟩
  rw [← hq] at h
  clear hq
  unfold chanceryref1_Within.f at h
  rw [show wrap64 ((n - 1) - 0) = n - 1 by unfold wrap64;omega,show wrap64 ((n - 1) + 1) = n by unfold wrap64;omega] at h
  have h3:-n < Int.tmod q n ∧ Int.tmod q n < n:=⟨Int.lt_tmod_of_pos q (by omega),Int.tmod_lt_of_pos q (by omega)⟩
  have h4:wrap64 (Int.tmod q n + n) = Int.tmod q n + n:=by unfold wrap64;omega
  rw [h4] at h
  have h5:0 ≤ Int.tmod (Int.tmod q n + n) n:=Int.tmod_nonneg _ (by omega)
  have h6:Int.tmod (Int.tmod q n + n) n < n:=Int.tmod_lt_of_pos _ (by omega)
  have h7:wrap64 (0 + Int.tmod (Int.tmod q n + n) n) = Int.tmod (Int.tmod q n + n) n:=by unfold wrap64;omega
  (rw [h7] at h;split at h <;> first | (injection h with h;omega) | cases h)
structure PaS (w0:World) (gd:Nat) (raw:List Int) (u:Nat) (v:Value) (out:List S128) (w:World):Prop where
 dice:DiceSt w0 gd raw u w
 lg:w0.heap.size ≤ gd
 row:Kd.R k128 128 w w0.heap.size (fun _=>True) v out
 bel:Below w0.heap.size w0 w
section
variable {w0 w w1:World} {gd u:Nat} {raw:List Int} {v:Value} {out:List S128}
theorem PaS.below (h:PaS w0 gd raw u v out w) (hb:Below w.heap.size w w1):PaS w0 gd raw u v out w1:=by
 obtain ⟨cs,hd⟩:=h.dice.typed
 exact ⟨h.dice.block (hb.block _ (blk_lt hd)),h.lg,Kd.R_below h.row hb,below_step h.bel hb⟩
theorem PaS.drew (h:PaS w0 gd raw u v out w):PaS w0 gd raw u v out w.drew:=h.below (below_drew1 (Below.refl _ _))
theorem PaS.size (h:PaS w0 gd raw u v out w):w0.heap.size ≤ w.heap.size:=h.bel.size
theorem PaS.ne (h:PaS w0 gd raw u v out w) {g t:Nat} {cs:Array Value} (hg:w.heap[g]? = some (.cells cs t (0,0))) (ht:t ≠ 79):g ≠ gd:=fun e=>by
 obtain ⟨cs',hd⟩:=h.dice.typed
 rw [e,hd] at hg
 injection hg with hg
 injection hg with _ hg
 exact ht hg.symm
theorem PaS.roll_calls (h:PaS w0 gd raw u v out w) (hu:u < 4611686018427387904) {n x:Int} (hf:rollF raw u n = some x) :
 Calls Try.prog 40 #[.pointer (some ⟨gd,0,none⟩),.int .i64 n] w fun e w'=>e = .returned (.int .i64 x) ∧ PaS w0 gd raw (rollU raw u) v out w' ∧ (∀ (k:Nat) cells t,t ≠ 79 → w.heap[k]? = some (Obj.cells cells t (0,0)) → w'.heap[k]? = w.heap[k]?) ∧ w.heap.size ≤ w'.heap.size:=by
 refine (PDelta.roll_calls w0 gd raw u n x w h.lg h.dice h.bel hu hf).mono ?_
 rintro e w' ⟨rfl,hd,⟨hs,hfr⟩,hb⟩
 obtain ⟨cs,hgd⟩:=h.dice.typed
 exact ⟨rfl,⟨hd,h.lg,r_keep h.row hgd (by decide) hfr,hb⟩,fun k cells t ht hk=>hfr k (blk_lt hk) (h.ne hk ht),hs⟩
theorem PaS.set (h:PaS w0 gd raw u v out w) {g:Nat} {cs:Array Value} (hg:w.heap[g]? = some (.cells cs 128 (0,0))) (hl:w0.heap.size ≤ g) (hne:v.ownBlock ≠ some g) (o:Nat) (x:Value):PaS w0 gd raw u v out (w.setCell ⟨g,o,none⟩ x):=by
 have hgd:=h.ne hg (by decide)
 refine ⟨h.dice.block (Below.heap_setCell w ⟨g,o,none⟩ x _ (Ne.symm hgd)),h.lg,?_,h.bel.setCell hl _⟩
 exact Kd.R_mono (Kd.R_far (Kd.R_tight rfl h.row) (fun k hk e=>hne (by rw [← hk,e])) x) (fun _ _=>trivial)
theorem PaS.append (h:PaS w0 gd raw u v out w) {vn:Value} {x:S128} (hR:Kd.R k128 128 w1 w0.heap.size (fun _=>True) vn (out ++ [x])) (hB:Below w0.heap.size w0 w1) (hg:w.grownBy w1 v.ownBlock):PaS w0 gd raw u vn (out ++ [x]) w1:=by
 obtain ⟨cs,hd⟩:=h.dice.typed
 refine ⟨h.dice.block (hg.block _ (blk_lt hd) (fun e=>?_)),h.lg,hR,hB⟩
 obtain ⟨inner,ho⟩:=Kd.R_own h.row
 obtain ⟨c2,h2⟩:=own_typed ho gd e.symm
 rw [hd] at h2
 injection h2 with h2
 injection h2 with _ h2
 exact absurd h2 (by decide)
end
section
variable {w w1:World} {base:Nat} {v:Value} {xs:List ByteArray}
theorem strR_move (h:Kd.R Kd.string 9 w base (fun _=>True) v xs) (hm:∀ (k:Nat) cells,w.heap[k]? = some (Obj.cells cells 9 (0,0)) → w1.heap[k]? = w.heap[k]?):Kd.R Kd.string 9 w1 base (fun _=>True) v xs :=
 Kd.R_mono (Kd.R_move (Kd.R_bound h) (fun k hk=>by
  obtain ⟨_,_,_,q,hq,cells,hc⟩:=hk
  have:q = 9:=by simpa [Kd.string,Kd.scalar] using hq
  subst this
  exact hm k cells hc)) (fun _ _=>trivial)
theorem strR_ad (h:Kd.R Kd.string 9 w base (fun _=>True) v xs) (hp:0 < xs.length):∃ ad c,v = .slice (some ad) xs.length c:=by
 obtain ⟨A,c,rfl⟩:=Kd.R_slice h
 obtain ⟨ad,e,_⟩:=Kd.at_string (Kd.R_reads' h).2.2 0 (Int.le_refl _) (by omega)
 subst e
 exact ⟨ad,c,rfl⟩
theorem strR_set (h:Kd.R Kd.string 9 w base (fun _=>True) v xs) {g t:Nat} {cs:Array Value} (hg:w.heap[g]? = some (.cells cs t (0,0))) (ht:t ≠ 9) (o:Nat) (x:Value):Kd.R Kd.string 9 (w.setCell ⟨g,o,none⟩ x) base (fun _=>True) v xs :=
 strR_move h (fun k cells hk=>Below.heap_setCell w ⟨g,o,none⟩ x k (fun e=>by
  rw [show k = g from e,hg] at hk
  injection hk with hk
  injection hk with _ hk
  exact ht hk))
end
end Go.Proofs.Ytlcodfjlbhjkbaa.PDelta
end

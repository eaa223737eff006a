/- Parts of the proof of One: nothing is claimed here by itself. -/
import Derived.Test.YtlcodfjlbhjkbaaKOne2
import Derived.StillTailTactics
set_option linter.unusedVariables false
set_option linter.unusedSimpArgs false
section
namespace Go.Proofs.Ytlcodfjlbhjkbaa.PDelta
open Go.RowKit Go.Proofs.YtlcodfjlbhjkbaaW.PrintWords Go.Proofs.YtlcodfjlbhjkbaaW.PrintLast Go.Proofs.YtlcodfjlbhjkbaaW.PrintMore
attribute [local go_sem] max2_int min2_int max_two min_two max_three min_three max_four min_four
attribute [local go_sem high] Go.Proofs.Ytlcodfjlbhjkbaa.Ord.leq_str Go.Proofs.Ytlcodfjlbhjkbaa.Ord.gtr_str Go.Proofs.Ytlcodfjlbhjkbaa.Ord.geq_str
def chanceryref1_Value.l0:Nat → ByteArray → Int → Int → Option (Bool)
 | 0,_,_,_=>none
 | k + 1,x0,x5,x6=>if x6 < x5 then (if 0 ≤ x6 then (if x6 < (x0.size:Int) then (if (bt x0 x6) < 32 then (some false) else (if (bt x0 x6) > 126 then (some false) else (chanceryref1_Value.l0 k x0 x5 (wrap64 (x6 + 1))))) else (none)) else (none)) else (if (x0.size:Int) ≥ 1 then (some (decide ((x0.size:Int) ≤ 200))) else (some false))
def chanceryref1_Value.f (k:Nat) (a0:ByteArray):Option (Bool):=chanceryref1_Value.l0 k a0 (a0.size:Int) 0
theorem chanceryref1_Value.mono_l:∀ k,(∀ y0 y1 y2,LeO (chanceryref1_Value.l0 k y0 y1 y2) (chanceryref1_Value.l0 (k + 1) y0 y1 y2))
 | 0=>fun _ _ _ r h=>by simp [chanceryref1_Value.l0] at h
 | k + 1=>by
  have ih0:=chanceryref1_Value.mono_l k
  ·intro y0 y1 y2
   unfold chanceryref1_Value.l0
   repeat' first | (with_reducible exact ih0 _ _ _) | (with_reducible exact LeO.refl _) | (with_reducible refine LeO.ite ?_ ?_)
theorem chanceryref1_Value.mono:∀ a0 k,LeO (chanceryref1_Value.f k a0) (chanceryref1_Value.f (k + 1) a0):=by
 intro a0 k
 have ih0:=chanceryref1_Value.mono_l k
 unfold chanceryref1_Value.f
 repeat' (with_reducible exact ih0 _ _ _)
set_option maxHeartbeats 8000000 in
set_option maxRecDepth 100000 in
theorem chanceryref1_Value.calls (k:Nat) (a0:ByteArray) (r:Bool) (w:World) (h:chanceryref1_Value.f k a0 = some r) :
 Calls Try.prog 128 #[.string a0] w fun e w'=>e = .returned (.bool r) ∧ Drawn0 w w':=by
 have H:(chanceryref1_Value.l0 k a0 (a0.size:Int) 0) = some r:=h
 clear h
 have H':=Aside0.mk H
 clear H
 go_enter Try.func128,Try.ntmps128
 go_wp2
 go_loopg [6] k (fun kq v6 w'=>∃ (x6_1:Int),v6 = .int .i64 x6_1 ∧ Aside0 (chanceryref1_Value.l0 kq a0 (a0.size:Int) x6_1 = some r) ∧ Aside0 (kq ≤ k) ∧ Drawn0 w w')
 case atStart=>exact ⟨(0),(by rfl),H',⟨Nat.le_refl _⟩,by repeat (exact Drawn0.refl _)⟩
 case round =>
  clear H'
  obtain ⟨x6_1,rfl,HA,HK1,⟨m1,rfl⟩⟩:=hrel
  cases gk with
  | zero=>exact absurd HA.out (by simp [chanceryref1_Value.l0])
  | succ k1 =>
   have H:=HA.out
   clear HA
   simp only [chanceryref1_Value.l0] at H
   by_cases c2:x6_1 < (a0.size:Int)
   ·rw [if_pos c2] at H
    have c2b0:decide (x6_1 < (a0.size:Int)) = true:=decide_eq_true c2
    clear c2
    by_cases c3:0 ≤ x6_1
    ·rw [if_pos c3] at H
     have c3b0:decide (0 ≤ x6_1) = true:=decide_eq_true c3
     clear c3
     by_cases c4:x6_1 < (a0.size:Int)
     ·rw [if_pos c4] at H
      have c4b0:decide (x6_1 < (a0.size:Int)) = true:=decide_eq_true c4
      clear c4
      by_cases c6:(bt a0 x6_1) < 32
      ·rw [if_pos c6] at H
       have c6b0:decide ((bt a0 x6_1) < 32) = true:=decide_eq_true c6
       clear c6
       obtain rfl:=Option.some.inj H
       have p5:0 ≤ (x6_1:Int):=of_decide_eq_true (by assumption)
       have q5:x6_1 < (a0.size:Int):=of_decide_eq_true (by assumption)
       have hx5:=bt_at a0 x6_1
       replace p5:=eq_true p5
       replace q5:=eq_true q5
       go_wp2
       go_ret
       exact ⟨by rfl,by repeat (first | exact Drawn0.refl _ | apply Drawn0.step)⟩
      ·rw [if_neg c6] at H
       have c6b0:decide ((bt a0 x6_1) < 32) = false:=decide_eq_false c6
       clear c6
       by_cases c8:(bt a0 x6_1) > 126
       ·rw [if_pos c8] at H
        have c8b0:decide (126 < (bt a0 x6_1)) = true:=decide_eq_true c8
        clear c8
        obtain rfl:=Option.some.inj H
        have p5:0 ≤ (x6_1:Int):=of_decide_eq_true (by assumption)
        have q5:x6_1 < (a0.size:Int):=of_decide_eq_true (by assumption)
        have hx5:=bt_at a0 x6_1
        replace p5:=eq_true p5
        replace q5:=eq_true q5
        have p7:0 ≤ (x6_1:Int):=of_decide_eq_true (by assumption)
        have q7:x6_1 < (a0.size:Int):=of_decide_eq_true (by assumption)
        have hx7:=bt_at a0 x6_1
        replace p7:=eq_true p7
        replace q7:=eq_true q7
        go_wp2
        go_ret
        exact ⟨by rfl,by repeat (first | exact Drawn0.refl _ | apply Drawn0.step)⟩
       ·rw [if_neg c8] at H
        have c8b0:decide (126 < (bt a0 x6_1)) = false:=decide_eq_false c8
        clear c8
        have H':=Aside0.mk H
        clear H
        have p5:0 ≤ (x6_1:Int):=of_decide_eq_true (by assumption)
        have q5:x6_1 < (a0.size:Int):=of_decide_eq_true (by assumption)
        have hx5:=bt_at a0 x6_1
        replace p5:=eq_true p5
        replace q5:=eq_true q5
        have p7:0 ≤ (x6_1:Int):=of_decide_eq_true (by assumption)
        have q7:x6_1 < (a0.size:Int):=of_decide_eq_true (by assumption)
        have hx7:=bt_at a0 x6_1
        replace p7:=eq_true p7
        replace q7:=eq_true q7
        go_wp2
        go_roundg k1
        case measure=>have:=HK1.out;omega
        case rel=>exact ⟨(wrap64 (x6_1 + 1)),(by rfl),H',⟨by have:=HK1.out;omega⟩,by repeat (first | exact Drawn0.refl _ | apply Drawn0.step)⟩
     ·rw [if_neg c4] at H
      exact absurd H (by simp)
    ·rw [if_neg c3] at H
     exact absurd H (by simp)
   ·rw [if_neg c2] at H
    have c2b0:decide (x6_1 < (a0.size:Int)) = false:=decide_eq_false c2
    clear c2
    by_cases c9:(a0.size:Int) ≥ 1
    ·rw [if_pos c9] at H
     have c9b0:decide (1 ≤ (a0.size:Int)) = true:=decide_eq_true c9
     have c9b1:decide (1 ≤ a0.size) = true:=decide_eq_true (by omega)
     clear c9
     obtain rfl:=Option.some.inj H
     go_wp2
     go_ret
     exact ⟨by rfl,by repeat (first | exact Drawn0.refl _ | apply Drawn0.step)⟩
    ·rw [if_neg c9] at H
     have c9b0:decide (1 ≤ (a0.size:Int)) = false:=decide_eq_false c9
     have c9b1:decide (1 ≤ a0.size) = false:=decide_eq_false (by omega)
     clear c9
     obtain rfl:=Option.some.inj H
     go_wp2
     go_ret
     exact ⟨by rfl,by repeat (first | exact Drawn0.refl _ | apply Drawn0.step)⟩
mutual
def chanceryref1_AttrsError.l0:Nat → List (S91) → Bool → Int → Int → Option (Int)
 | 0,_,_,_,_=>none
 | k + 1,x0,x1,x7,x8=>if x8 < x7 then (if 0 ≤ x8 then (if x8 < (x0.length:Int) then ((chanceryref1_Name.f k ((rd_T91 x0 x8).f0)).bind fun t266=>(if t266 = true then ((chanceryref1_Value.f k ((rd_T91 x0 x8).f1)).bind fun t268=>(if t268 = true then (chanceryref1_AttrsError.j1 k x0 x1 x8 x7 x8 false) else (if ((rd_T91 x0 x8).f1).toList = ([]:List UInt8) then (chanceryref1_AttrsError.j1 k x0 x1 x8 x7 x8 (!x1)) else (chanceryref1_AttrsError.j1 k x0 x1 x8 x7 x8 true)))) else (some 9))) else (none)) else (none)) else (some 0)
def chanceryref1_AttrsError.j1:Nat → List (S91) → Bool → Int → Int → Int → Bool → Option (Int)
 | 0,_,_,_,_,_,_=>none
 | k + 1,x0,x1,x5,x7,x8,x36=>if x36 = true then (some 23) else (if x5 > 0 then (if 0 ≤ (wrap64 (x5 - 1)) then (if (wrap64 (x5 - 1)) < (x0.length:Int) then (if 0 ≤ x5 then (if x5 < (x0.length:Int) then (if ((Op.bytesLess (((rd_T91 x0 (wrap64 (x5 - 1))).f0).toList) (((rd_T91 x0 x5).f0).toList)) = true) then (chanceryref1_AttrsError.l0 k x0 x1 x7 (wrap64 (x8 + 1))) else (some 5)) else (none)) else (none)) else (none)) else (none)) else (chanceryref1_AttrsError.l0 k x0 x1 x7 (wrap64 (x8 + 1))))
end
def chanceryref1_AttrsError.f (k:Nat) (l0:List (S91)) (a1:Bool):Option (Int):=chanceryref1_AttrsError.l0 k l0 a1 (l0.length:Int) 0
set_option maxHeartbeats 8000000 in
set_option maxRecDepth 100000 in
theorem chanceryref1_AttrsError.calls (k:Nat) (A0:Option Addr) (c0:Nat) (l0:List (S91)) (a1:Bool) (r:Int) (w:World) (hr0:Kd.C k91 w A0 l0.length l0) (hc0:l0.length ≤ c0) (h:chanceryref1_AttrsError.f k l0 a1 = some r) :
 Calls Try.prog 87 #[.slice A0 l0.length c0,.bool a1] w fun e w'=>e = .returned (.int .i64 r) ∧ Drawn0 w w':=by
 have HR0:=Aside0.mk hr0
 have HC0:=Aside0.mk hc0
 clear hr0 hc0
 have H:(chanceryref1_AttrsError.l0 k l0 a1 (l0.length:Int) 0) = some r:=h
 clear h
 have H':=Aside0.mk H
 clear H
 go_enter Try.func87,Try.ntmps87
 go_wp2
 repeat (go_quiet (fail);try go_wp2)
 go_loopg [8] k (fun kq v8 w'=>∃ (x8_1:Int),v8 = .int .i64 x8_1 ∧ Aside0 (chanceryref1_AttrsError.l0 kq l0 a1 (l0.length:Int) x8_1 = some r) ∧ Aside0 (kq ≤ k) ∧ Drawn0 w w')
 case atStart=>exact ⟨(0),(by rfl),H',⟨Nat.le_refl _⟩,by repeat (exact Drawn0.refl _)⟩
 case round =>
  clear H'
  obtain ⟨x8_1,rfl,HA,HK1,⟨m1,rfl⟩⟩:=hrel
  cases gk with
  | zero=>exact absurd HA.out (by simp [chanceryref1_AttrsError.l0])
  | succ k1 =>
   have H:=HA.out
   clear HA
   simp only [chanceryref1_AttrsError.l0] at H
   by_cases c3:x8_1 < (l0.length:Int)
   ·rw [if_pos c3] at H
    have c3b0:decide (x8_1 < (l0.length:Int)) = true:=decide_eq_true c3
    clear c3
    by_cases c4:0 ≤ x8_1
    ·rw [if_pos c4] at H
     have c4b0:decide (0 ≤ x8_1) = true:=decide_eq_true c4
     clear c4
     by_cases c5:x8_1 < (l0.length:Int)
     ·rw [if_pos c5] at H
      have c5b0:decide (x8_1 < (l0.length:Int)) = true:=decide_eq_true c5
      clear c5
      replace H:=Option.bind_eq_some_iff.mp H
      obtain ⟨t266,A60,H⟩:=H
      replace H:(if t266 = true then ((chanceryref1_Value.f k1 ((rd_T91 l0 x8_1).f1)).bind fun t268=>(if t268 = true then (chanceryref1_AttrsError.j1 k1 l0 a1 x8_1 (l0.length:Int) x8_1 false) else (if ((rd_T91 l0 x8_1).f1).toList = ([]:List UInt8) then (chanceryref1_AttrsError.j1 k1 l0 a1 x8_1 (l0.length:Int) x8_1 (!a1)) else (chanceryref1_AttrsError.j1 k1 l0 a1 x8_1 (l0.length:Int) x8_1 true)))) else (some 9)) = some r:=H
      have A6:=Aside0.mk A60
      clear A60
      by_cases c7:t266 = true
      ·subst c7
       have H1:((chanceryref1_Value.f k1 ((rd_T91 l0 x8_1).f1)).bind fun t268=>(if t268 = true then (chanceryref1_AttrsError.j1 k1 l0 a1 x8_1 (l0.length:Int) x8_1 false) else (if ((rd_T91 l0 x8_1).f1).toList = ([]:List UInt8) then (chanceryref1_AttrsError.j1 k1 l0 a1 x8_1 (l0.length:Int) x8_1 (!a1)) else (chanceryref1_AttrsError.j1 k1 l0 a1 x8_1 (l0.length:Int) x8_1 true)))) = some r:=by rw [if_pos rfl] at H;exact H
       clear H
       have H:=H1
       clear H1
       have HC8:=Aside0.mk H
       clear H
       have p265:0 ≤ (x8_1:Int):=of_decide_eq_true (by assumption)
       have q265:x8_1 < (l0.length:Int):=of_decide_eq_true (by assumption)
       obtain ⟨ad265,e265,hx265_0,hx265_1⟩:=at_T91 HR0.out x8_1 p265 q265
       cases e265
       replace p265:=eq_true p265
       replace q265:=eq_true q265
       go_upto_region 6 with ((go_at_call 127;(with_reducible refine (chanceryref1_Name.calls k1 ((rd_T91 l0 x8_1).f0) true _ A6.out).mono ?_);rintro e w' ⟨rfl,⟨nd,rfl⟩⟩;(try first | exact ⟨rfl,_,World.drewN_drewN _ _ _⟩ | exact ⟨rfl,_,Eq.trans (World.drewN_drewN _ _ _) (congrArg (World.drewN _) (Nat.add_assoc _ _ _))⟩)))
       repeat (go_quiet ((go_at_call 127;(with_reducible refine (chanceryref1_Name.calls k1 ((rd_T91 l0 x8_1).f0) true _ A6.out).mono ?_);rintro e w' ⟨rfl,⟨nd,rfl⟩⟩;(try first | exact ⟨rfl,_,World.drewN_drewN _ _ _⟩ | exact ⟨rfl,_,Eq.trans (World.drewN_drewN _ _ _) (congrArg (World.drewN _) (Nat.add_assoc _ _ _))⟩)));go_upto_region 6 with ((go_at_call 127;(with_reducible refine (chanceryref1_Name.calls k1 ((rd_T91 l0 x8_1).f0) true _ A6.out).mono ?_);rintro e w' ⟨rfl,⟨nd,rfl⟩⟩;(try first | exact ⟨rfl,_,World.drewN_drewN _ _ _⟩ | exact ⟨rfl,_,Eq.trans (World.drewN_drewN _ _ _) (congrArg (World.drewN _) (Nat.add_assoc _ _ _))⟩))))
       (try simp only [Act.put,List.setIfInBounds_toArray,List.set_cons_zero,List.set_cons_succ])
       go_cut [36] (fun v36 wc=>∃ (kq:Nat) (x36_7:Bool),v36 = .bool x36_7 ∧ Aside0 (chanceryref1_AttrsError.j1 kq l0 a1 x8_1 (l0.length:Int) x8_1 x36_7 = some r) ∧ Aside0 (kq ≤ k1) ∧ Drawn0 w wc)
       case first =>
        have H:=HC8.out
        clear HC8
        replace H:=Option.bind_eq_some_iff.mp H
        obtain ⟨t268,A90,H⟩:=H
        replace H:(if t268 = true then (chanceryref1_AttrsError.j1 k1 l0 a1 x8_1 (l0.length:Int) x8_1 false) else (if ((rd_T91 l0 x8_1).f1).toList = ([]:List UInt8) then (chanceryref1_AttrsError.j1 k1 l0 a1 x8_1 (l0.length:Int) x8_1 (!a1)) else (chanceryref1_AttrsError.j1 k1 l0 a1 x8_1 (l0.length:Int) x8_1 true))) = some r:=H
        have A9:=Aside0.mk A90
        clear A90
        by_cases c10:t268 = true
        ·subst c10
         have H1:(chanceryref1_AttrsError.j1 k1 l0 a1 x8_1 (l0.length:Int) x8_1 false) = some r:=by rw [if_pos rfl] at H;exact H
         clear H
         have H:=H1
         clear H1
         have H':=Aside0.mk H
         clear H
         have p267:0 ≤ (x8_1:Int):=of_decide_eq_true (by assumption)
         have q267:x8_1 < (l0.length:Int):=of_decide_eq_true (by assumption)
         obtain ⟨ad267,e267,hx267_0,hx267_1⟩:=at_T91 HR0.out x8_1 p267 q267
         obtain rfl:ad265 = ad267:=(by injection e267)
         replace p267:=eq_true p267
         replace q267:=eq_true q267
         go_wp2_with ((go_at_call 128;(with_reducible refine (chanceryref1_Value.calls k1 ((rd_T91 l0 x8_1).f1) true _ A9.out).mono ?_);rintro e w' ⟨rfl,⟨nd,rfl⟩⟩;(try first | exact ⟨rfl,_,World.drewN_drewN _ _ _⟩ | exact ⟨rfl,_,Eq.trans (World.drewN_drewN _ _ _) (congrArg (World.drewN _) (Nat.add_assoc _ _ _))⟩)))
         repeat (go_quiet ((go_at_call 128;(with_reducible refine (chanceryref1_Value.calls k1 ((rd_T91 l0 x8_1).f1) true _ A9.out).mono ?_);rintro e w' ⟨rfl,⟨nd,rfl⟩⟩;(try first | exact ⟨rfl,_,World.drewN_drewN _ _ _⟩ | exact ⟨rfl,_,Eq.trans (World.drewN_drewN _ _ _) (congrArg (World.drewN _) (Nat.add_assoc _ _ _))⟩)));try go_wp2_with ((go_at_call 128;(with_reducible refine (chanceryref1_Value.calls k1 ((rd_T91 l0 x8_1).f1) true _ A9.out).mono ?_);rintro e w' ⟨rfl,⟨nd,rfl⟩⟩;(try first | exact ⟨rfl,_,World.drewN_drewN _ _ _⟩ | exact ⟨rfl,_,Eq.trans (World.drewN_drewN _ _ _) (congrArg (World.drewN _) (Nat.add_assoc _ _ _))⟩))))
         go_meet
         case rel=>exact ⟨_,(false),(by rfl),H',⟨by have:=HK1.out;omega⟩,by repeat (first | exact Drawn0.refl _ | apply Drawn0.step)⟩
        ·replace c10:=Bool.eq_false_iff.mpr c10
         subst c10
         have H1:(if ((rd_T91 l0 x8_1).f1).toList = ([]:List UInt8) then (chanceryref1_AttrsError.j1 k1 l0 a1 x8_1 (l0.length:Int) x8_1 (!a1)) else (chanceryref1_AttrsError.j1 k1 l0 a1 x8_1 (l0.length:Int) x8_1 true)) = some r:=by rw [if_neg (show ¬ (false = true) by decide)] at H;exact H
         clear H
         have H:=H1
         clear H1
         by_cases c11:((rd_T91 l0 x8_1).f1).toList = ([]:List UInt8)
         ·rw [if_pos c11] at H
          have c11b0:(((rd_T91 l0 x8_1).f1).toList == ([]:List UInt8)) = true:=beq_iff_eq.mpr c11
          have c11b1:(((rd_T91 l0 x8_1).f1).toList != ([]:List UInt8)) = false:=bne_eq_false_iff_eq.mpr c11
          clear c11
          (skip)
          have H':=Aside0.mk H
          clear H
          have p267:0 ≤ (x8_1:Int):=of_decide_eq_true (by assumption)
          have q267:x8_1 < (l0.length:Int):=of_decide_eq_true (by assumption)
          obtain ⟨ad267,e267,hx267_0,hx267_1⟩:=at_T91 HR0.out x8_1 p267 q267
          obtain rfl:ad265 = ad267:=(by injection e267)
          replace p267:=eq_true p267
          replace q267:=eq_true q267
          go_wp2_with ((go_at_call 128;(with_reducible refine (chanceryref1_Value.calls k1 ((rd_T91 l0 x8_1).f1) false _ A9.out).mono ?_);rintro e w' ⟨rfl,⟨nd,rfl⟩⟩;(try first | exact ⟨rfl,_,World.drewN_drewN _ _ _⟩ | exact ⟨rfl,_,Eq.trans (World.drewN_drewN _ _ _) (congrArg (World.drewN _) (Nat.add_assoc _ _ _))⟩);have p269:0 ≤ (x8_1:Int):=of_decide_eq_true (by assumption);have q269:x8_1 < (l0.length:Int):=of_decide_eq_true (by assumption);obtain ⟨ad269,e269,hx269_0,hx269_1⟩:=at_T91 HR0.out x8_1 p269 q269;obtain rfl:ad265 = ad269:=(by injection e269);replace p269:=eq_true p269;replace q269:=eq_true q269))
          repeat (go_quiet ((go_at_call 128;(with_reducible refine (chanceryref1_Value.calls k1 ((rd_T91 l0 x8_1).f1) false _ A9.out).mono ?_);rintro e w' ⟨rfl,⟨nd,rfl⟩⟩;(try first | exact ⟨rfl,_,World.drewN_drewN _ _ _⟩ | exact ⟨rfl,_,Eq.trans (World.drewN_drewN _ _ _) (congrArg (World.drewN _) (Nat.add_assoc _ _ _))⟩);have p269:0 ≤ (x8_1:Int):=of_decide_eq_true (by assumption);have q269:x8_1 < (l0.length:Int):=of_decide_eq_true (by assumption);obtain ⟨ad269,e269,hx269_0,hx269_1⟩:=at_T91 HR0.out x8_1 p269 q269;obtain rfl:ad265 = ad269:=(by injection e269);replace p269:=eq_true p269;replace q269:=eq_true q269));try go_wp2_with ((go_at_call 128;(with_reducible refine (chanceryref1_Value.calls k1 ((rd_T91 l0 x8_1).f1) false _ A9.out).mono ?_);rintro e w' ⟨rfl,⟨nd,rfl⟩⟩;(try first | exact ⟨rfl,_,World.drewN_drewN _ _ _⟩ | exact ⟨rfl,_,Eq.trans (World.drewN_drewN _ _ _) (congrArg (World.drewN _) (Nat.add_assoc _ _ _))⟩);have p269:0 ≤ (x8_1:Int):=of_decide_eq_true (by assumption);have q269:x8_1 < (l0.length:Int):=of_decide_eq_true (by assumption);obtain ⟨ad269,e269,hx269_0,hx269_1⟩:=at_T91 HR0.out x8_1 p269 q269;obtain rfl:ad265 = ad269:=(by injection e269);replace p269:=eq_true p269;replace q269:=eq_true q269)))
          go_meet
          case rel=>exact ⟨_,(!a1),(by rfl),H',⟨by have:=HK1.out;omega⟩,by repeat (first | exact Drawn0.refl _ | apply Drawn0.step)⟩
         ·rw [if_neg c11] at H
          have c11b0:(((rd_T91 l0 x8_1).f1).toList == ([]:List UInt8)) = false:=beq_eq_false_iff_ne.mpr c11
          have c11b1:(((rd_T91 l0 x8_1).f1).toList != ([]:List UInt8)) = true:=bne_iff_ne.mpr c11
          (skip)
          have H':=Aside0.mk H
          clear H
          have p267:0 ≤ (x8_1:Int):=of_decide_eq_true (by assumption)
          have q267:x8_1 < (l0.length:Int):=of_decide_eq_true (by assumption)
          obtain ⟨ad267,e267,hx267_0,hx267_1⟩:=at_T91 HR0.out x8_1 p267 q267
          obtain rfl:ad265 = ad267:=(by injection e267)
          replace p267:=eq_true p267
          replace q267:=eq_true q267
          go_wp2_with ((go_at_call 128;(with_reducible refine (chanceryref1_Value.calls k1 ((rd_T91 l0 x8_1).f1) false _ A9.out).mono ?_);rintro e w' ⟨rfl,⟨nd,rfl⟩⟩;(try first | exact ⟨rfl,_,World.drewN_drewN _ _ _⟩ | exact ⟨rfl,_,Eq.trans (World.drewN_drewN _ _ _) (congrArg (World.drewN _) (Nat.add_assoc _ _ _))⟩);have p269:0 ≤ (x8_1:Int):=of_decide_eq_true (by assumption);have q269:x8_1 < (l0.length:Int):=of_decide_eq_true (by assumption);obtain ⟨ad269,e269,hx269_0,hx269_1⟩:=at_T91 HR0.out x8_1 p269 q269;obtain rfl:ad265 = ad269:=(by injection e269);replace p269:=eq_true p269;replace q269:=eq_true q269))
          repeat (go_quiet ((go_at_call 128;(with_reducible refine (chanceryref1_Value.calls k1 ((rd_T91 l0 x8_1).f1) false _ A9.out).mono ?_);rintro e w' ⟨rfl,⟨nd,rfl⟩⟩;(try first | exact ⟨rfl,_,World.drewN_drewN _ _ _⟩ | exact ⟨rfl,_,Eq.trans (World.drewN_drewN _ _ _) (congrArg (World.drewN _) (Nat.add_assoc _ _ _))⟩);have p269:0 ≤ (x8_1:Int):=of_decide_eq_true (by assumption);have q269:x8_1 < (l0.length:Int):=of_decide_eq_true (by assumption);obtain ⟨ad269,e269,hx269_0,hx269_1⟩:=at_T91 HR0.out x8_1 p269 q269;obtain rfl:ad265 = ad269:=(by injection e269);replace p269:=eq_true p269;replace q269:=eq_true q269));try go_wp2_with ((go_at_call 128;(with_reducible refine (chanceryref1_Value.calls k1 ((rd_T91 l0 x8_1).f1) false _ A9.out).mono ?_);rintro e w' ⟨rfl,⟨nd,rfl⟩⟩;(try first | exact ⟨rfl,_,World.drewN_drewN _ _ _⟩ | exact ⟨rfl,_,Eq.trans (World.drewN_drewN _ _ _) (congrArg (World.drewN _) (Nat.add_assoc _ _ _))⟩);have p269:0 ≤ (x8_1:Int):=of_decide_eq_true (by assumption);have q269:x8_1 < (l0.length:Int):=of_decide_eq_true (by assumption);obtain ⟨ad269,e269,hx269_0,hx269_1⟩:=at_T91 HR0.out x8_1 p269 q269;obtain rfl:ad265 = ad269:=(by injection e269);replace p269:=eq_true p269;replace q269:=eq_true q269)))
          go_meet
          case rel=>exact ⟨_,(true),(by rfl),H',⟨by have:=HK1.out;omega⟩,by repeat (first | exact Drawn0.refl _ | apply Drawn0.step)⟩
       case rest =>
        clear HC8
        try clear c3b0
        try clear c4b0
        try clear c5b0
        try clear hx265_0
        try clear hx265_1
        try clear p265
        try clear q265
        obtain ⟨kq,x36_7,rfl,HA,HJ7,⟨mc7,rfl⟩⟩:=hcut
        cases kq with
        | zero=>exact absurd HA.out (by simp [chanceryref1_AttrsError.j1])
        | succ kj7 =>
         have H:=HA.out
         clear HA
         simp only [chanceryref1_AttrsError.j1] at H
         by_cases c12:x36_7 = true
         ·subst c12
          have H1:(some 23) = some r:=by rw [if_pos rfl] at H;exact H
          clear H
          have H:=H1
          clear H1
          obtain rfl:=Option.some.inj H
          go_wp2
          repeat (go_quiet (fail);try go_wp2)
          go_ret
          exact ⟨by rfl,by repeat (first | exact Drawn0.refl _ | apply Drawn0.step)⟩
         ·replace c12:=Bool.eq_false_iff.mpr c12
          subst c12
          have H1:(if x8_1 > 0 then (if 0 ≤ (wrap64 (x8_1 - 1)) then (if (wrap64 (x8_1 - 1)) < (l0.length:Int) then (if 0 ≤ x8_1 then (if x8_1 < (l0.length:Int) then (if ((Op.bytesLess (((rd_T91 l0 (wrap64 (x8_1 - 1))).f0).toList) (((rd_T91 l0 x8_1).f0).toList)) = true) then (chanceryref1_AttrsError.l0 kj7 l0 a1 (l0.length:Int) (wrap64 (x8_1 + 1))) else (some 5)) else (none)) else (none)) else (none)) else (none)) else (chanceryref1_AttrsError.l0 kj7 l0 a1 (l0.length:Int) (wrap64 (x8_1 + 1)))) = some r:=by rw [if_neg (show ¬ (false = true) by decide)] at H;exact H
          clear H
          have H:=H1
          clear H1
          by_cases c13:x8_1 > 0
          ·rw [if_pos c13] at H
           have c13b0:decide (0 < x8_1) = true:=decide_eq_true c13
           clear c13
           obtain ⟨ji14,hji14⟩:∃ j_:Int,(wrap64 (x8_1 - 1)) = j_:=⟨_,rfl⟩
           replace H:(if 0 ≤ (ji14) then (if (ji14) < (l0.length:Int) then (if 0 ≤ x8_1 then (if x8_1 < (l0.length:Int) then (if ((Op.bytesLess (((rd_T91 l0 (ji14)).f0).toList) (((rd_T91 l0 x8_1).f0).toList)) = true) then (chanceryref1_AttrsError.l0 kj7 l0 a1 (l0.length:Int) (wrap64 (x8_1 + 1))) else (some 5)) else (none)) else (none)) else (none)) else (none)) = some r:=by (rw [hji14] at H;exact H)
           have hji14w:(IntKind.i64.wrap (x8_1 - 1)) = ji14:=(i64_w _).trans hji14
           by_cases c15:0 ≤ (ji14)
           ·rw [if_pos c15] at H
            have c15b0:decide (0 ≤ (ji14)) = true:=decide_eq_true c15
            clear c15
            by_cases c16:(ji14) < (l0.length:Int)
            ·rw [if_pos c16] at H
             have c16b0:decide ((ji14) < (l0.length:Int)) = true:=decide_eq_true c16
             clear c16
             by_cases c17:0 ≤ x8_1
             ·rw [if_pos c17] at H
              have c17b0:decide (0 ≤ x8_1) = true:=decide_eq_true c17
              clear c17
              by_cases c18:x8_1 < (l0.length:Int)
              ·rw [if_pos c18] at H
               have c18b0:decide (x8_1 < (l0.length:Int)) = true:=decide_eq_true c18
               clear c18
               by_cases c19:((Op.bytesLess (((rd_T91 l0 (ji14)).f0).toList) (((rd_T91 l0 x8_1).f0).toList)) = true)
               ·rw [if_pos c19] at H
                have c19b0:(Op.bytesLess (((rd_T91 l0 (ji14)).f0).toList) (((rd_T91 l0 x8_1).f0).toList)) = true:=c19
                clear c19
                have H':=Aside0.mk H
                clear H
                have p270:0 ≤ ((ji14):Int):=of_decide_eq_true (by assumption)
                have q270:(ji14) < (l0.length:Int):=of_decide_eq_true (by assumption)
                obtain ⟨ad270,e270,hx270_0,hx270_1⟩:=at_T91 HR0.out (ji14) p270 q270
                obtain rfl:ad265 = ad270:=(by injection e270)
                replace p270:=eq_true p270
                replace q270:=eq_true q270
                have p271:0 ≤ (x8_1:Int):=of_decide_eq_true (by assumption)
                have q271:x8_1 < (l0.length:Int):=of_decide_eq_true (by assumption)
                obtain ⟨ad271,e271,hx271_0,hx271_1⟩:=at_T91 HR0.out x8_1 p271 q271
                obtain rfl:ad265 = ad271:=(by injection e271)
                replace p271:=eq_true p271
                replace q271:=eq_true q271
                go_wp2
                repeat (go_quiet (fail);try go_wp2)
                go_roundg kj7
                case measure=>have:=HK1.out;have:=HJ7.out;omega
                case rel=>exact ⟨(wrap64 (x8_1 + 1)),(by rfl),H',⟨by have:=HK1.out;have:=HJ7.out;omega⟩,by repeat (first | exact Drawn0.refl _ | apply Drawn0.step)⟩
               ·rw [if_neg c19] at H
                have c19b0:(Op.bytesLess (((rd_T91 l0 (ji14)).f0).toList) (((rd_T91 l0 x8_1).f0).toList)) = false:=by simpa using c19
                clear c19
                obtain rfl:=Option.some.inj H
                have p270:0 ≤ ((ji14):Int):=of_decide_eq_true (by assumption)
                have q270:(ji14) < (l0.length:Int):=of_decide_eq_true (by assumption)
                obtain ⟨ad270,e270,hx270_0,hx270_1⟩:=at_T91 HR0.out (ji14) p270 q270
                obtain rfl:ad265 = ad270:=(by injection e270)
                replace p270:=eq_true p270
                replace q270:=eq_true q270
                have p271:0 ≤ (x8_1:Int):=of_decide_eq_true (by assumption)
                have q271:x8_1 < (l0.length:Int):=of_decide_eq_true (by assumption)
                obtain ⟨ad271,e271,hx271_0,hx271_1⟩:=at_T91 HR0.out x8_1 p271 q271
                obtain rfl:ad265 = ad271:=(by injection e271)
                replace p271:=eq_true p271
                replace q271:=eq_true q271
                go_wp2
                repeat (go_quiet (fail);try go_wp2)
                go_ret
                exact ⟨by rfl,by repeat (first | exact Drawn0.refl _ | apply Drawn0.step)⟩
              ·rw [if_neg c18] at H
               exact absurd H (by simp)
             ·rw [if_neg c17] at H
              exact absurd H (by simp)
            ·rw [if_neg c16] at H
             exact absurd H (by simp)
           ·rw [if_neg c15] at H
            exact absurd H (by simp)
          ·rw [if_neg c13] at H
           have c13b0:decide (0 < x8_1) = false:=decide_eq_false c13
           clear c13
           have H':=Aside0.mk H
           clear H
           go_wp2
           repeat (go_quiet (fail);try go_wp2)
           go_roundg kj7
           case measure=>have:=HK1.out;have:=HJ7.out;omega
           case rel=>exact ⟨(wrap64 (x8_1 + 1)),(by rfl),H',⟨by have:=HK1.out;have:=HJ7.out;omega⟩,by repeat (first | exact Drawn0.refl _ | apply Drawn0.step)⟩
      ·replace c7:=Bool.eq_false_iff.mpr c7
       subst c7
       have H1:(some 9) = some r:=by rw [if_neg (show ¬ (false = true) by decide)] at H;exact H
       clear H
       have H:=H1
       clear H1
       obtain rfl:=Option.some.inj H
       have p265:0 ≤ (x8_1:Int):=of_decide_eq_true (by assumption)
       have q265:x8_1 < (l0.length:Int):=of_decide_eq_true (by assumption)
       obtain ⟨ad265,e265,hx265_0,hx265_1⟩:=at_T91 HR0.out x8_1 p265 q265
       cases e265
       replace p265:=eq_true p265
       replace q265:=eq_true q265
       go_wp2_with ((go_at_call 127;(with_reducible refine (chanceryref1_Name.calls k1 ((rd_T91 l0 x8_1).f0) false _ A6.out).mono ?_);rintro e w' ⟨rfl,⟨nd,rfl⟩⟩;(try first | exact ⟨rfl,_,World.drewN_drewN _ _ _⟩ | exact ⟨rfl,_,Eq.trans (World.drewN_drewN _ _ _) (congrArg (World.drewN _) (Nat.add_assoc _ _ _))⟩)))
       repeat (go_quiet ((go_at_call 127;(with_reducible refine (chanceryref1_Name.calls k1 ((rd_T91 l0 x8_1).f0) false _ A6.out).mono ?_);rintro e w' ⟨rfl,⟨nd,rfl⟩⟩;(try first | exact ⟨rfl,_,World.drewN_drewN _ _ _⟩ | exact ⟨rfl,_,Eq.trans (World.drewN_drewN _ _ _) (congrArg (World.drewN _) (Nat.add_assoc _ _ _))⟩)));try go_wp2_with ((go_at_call 127;(with_reducible refine (chanceryref1_Name.calls k1 ((rd_T91 l0 x8_1).f0) false _ A6.out).mono ?_);rintro e w' ⟨rfl,⟨nd,rfl⟩⟩;(try first | exact ⟨rfl,_,World.drewN_drewN _ _ _⟩ | exact ⟨rfl,_,Eq.trans (World.drewN_drewN _ _ _) (congrArg (World.drewN _) (Nat.add_assoc _ _ _))⟩))))
       go_ret
       exact ⟨by rfl,by repeat (first | exact Drawn0.refl _ | apply Drawn0.step)⟩
     ·rw [if_neg c5] at H
      exact absurd H (by simp)
    ·rw [if_neg c4] at H
     exact absurd H (by simp)
   ·rw [if_neg c3] at H
    have c3b0:decide (x8_1 < (l0.length:Int)) = false:=decide_eq_false c3
    clear c3
    obtain rfl:=Option.some.inj H
    go_wp2
    repeat (go_quiet (fail);try go_wp2)
    go_ret
    exact ⟨by rfl,by repeat (first | exact Drawn0.refl _ | apply Drawn0.step)⟩
def chanceryref1_ElemError.j0:Nat → Bool → Int → Int → List (S91) → Option (Int)
 | 0,_,_,_,_=>none
 | k + 1,x20,x273000,x273001,x273002=>if x20 = true then (some 4) else (if x273000 = 0 then (if x273001 = 0 then ((chanceryref1_AttrsError.f k x273002 false).bind fun t273=>(some t273)) else ((chanceryref1_In.f x273001 1 1073741824).bind fun t274=>(if t274 = true then ((chanceryref1_AttrsError.f k x273002 false).bind fun t275=>(some t275)) else (some 2)))) else ((chanceryref1_Char.f x273000).bind fun t276=>(if t276 = true then (if x273001 = 0 then ((chanceryref1_AttrsError.f k x273002 false).bind fun t277=>(some t277)) else ((chanceryref1_In.f x273001 1 1073741824).bind fun t278=>(if t278 = true then ((chanceryref1_AttrsError.f k x273002 false).bind fun t279=>(some t279)) else (some 2)))) else (some 2))))
def chanceryref1_ElemError.f (k:Nat) (a0_0:Int) (a0_1:Int) (l0_2:List (S91)):Option (Int):=if a0_0 = 0 then (if a0_1 = 0 then (chanceryref1_ElemError.j0 k true a0_0 a0_1 l0_2) else (chanceryref1_ElemError.j0 k false a0_0 a0_1 l0_2)) else (chanceryref1_ElemError.j0 k (a0_1 != 0) a0_0 a0_1 l0_2)
set_option maxHeartbeats 8000000 in
set_option maxRecDepth 100000 in
theorem chanceryref1_ElemError.calls (k:Nat) (a0_0:Int) (a0_1:Int) (A0_2:Option Addr) (c0_2:Nat) (l0_2:List (S91)) (r:Int) (w:World) (hr0_2:Kd.C k91 w A0_2 l0_2.length l0_2) (hc0_2:l0_2.length ≤ c0_2) (h:chanceryref1_ElemError.f k a0_0 a0_1 l0_2 = some r) :
 Calls Try.prog 50 #[.agg #[.int .i64 a0_0,.int .i64 a0_1,.slice A0_2 l0_2.length c0_2]] w fun e w'=>e = .returned (.int .i64 r) ∧ Below w.heap.size w w':=by
 have hu26:=Try.underlying26
 have HR0_2:=Aside0.mk hr0_2
 have HC0_2:=Aside0.mk hc0_2
 clear hr0_2 hc0_2
 have HB:=Aside0.mk (Below.refl w.heap.size w)
 have H:(if a0_0 = 0 then (if a0_1 = 0 then (chanceryref1_ElemError.j0 k true a0_0 a0_1 l0_2) else (chanceryref1_ElemError.j0 k false a0_0 a0_1 l0_2)) else (chanceryref1_ElemError.j0 k (a0_1 != 0) a0_0 a0_1 l0_2)) = some r:=h
 clear h
 have HC2:=Aside0.mk H
 clear H
 go_enter Try.func50,Try.ntmps50
 go_upto_region 1 with (((with_reducible refine gate_dst (N:=1) rfl ?_);refine box_event ?hg (N:=1) ?hd (cs:=#[.int .i64 a0_0,.int .i64 a0_1,.slice A0_2 l0_2.length c0_2]) (t:=26) ?hr ?_;(case hd=>rfl);(case hg=>rfl);(case hr=>(go_simp;done));intro gb272 hg w3 hbox hb;have n0_:=Aside0.mk (below_step (by with_reducible exact HB.out) hb);have n1_:=Aside0.mk hbox;have n2_:=Aside0.mk ((by rw [hg];exact (below_size (by with_reducible exact HB.out)):w.heap.size ≤ gb272));have n3_:=Aside0.mk ((by rw [hg];exact (below_size (by with_reducible exact HB.out)):w.heap.size ≤ gb272));clear HB;have HB:=n0_;have BK272:=n1_;have GW272:=n2_;have GE272:=n3_;clear n0_ n1_ n2_ n3_;clear hb hbox hg))
 (try simp only [Act.put,List.setIfInBounds_toArray,List.set_cons_zero,List.set_cons_succ])
 go_cut [20] (fun v20 wc=>∃ (kq:Nat) (x20_1:Bool),v20 = .bool x20_1 ∧ Aside0 (chanceryref1_ElemError.j0 kq x20_1 a0_0 a0_1 l0_2 = some r) ∧ Aside0 (kq ≤ k) ∧ Aside0 (wc.heap[gb272]? = some (.cells #[.int .i64 a0_0,.int .i64 a0_1,(.slice A0_2 l0_2.length c0_2)] 26 (0,0))) ∧ Aside0 (Below w.heap.size w wc))
 case first =>
  have H:=HC2.out
  clear HC2
  by_cases c4:a0_0 = 0
  ·rw [if_pos c4] at H
   have c4b0:(a0_0 == 0) = true:=beq_iff_eq.mpr c4
   have c4b1:(a0_0 != 0) = false:=bne_eq_false_iff_eq.mpr c4
   clear c4
   (skip)
   by_cases c5:a0_1 = 0
   ·rw [if_pos c5] at H
    have c5b0:(a0_1 == 0) = true:=beq_iff_eq.mpr c5
    have c5b1:(a0_1 != 0) = false:=bne_eq_false_iff_eq.mpr c5
    clear c5
    have H':=Aside0.mk H
    clear H
    have hcz6_0:w3.cell? ⟨gb272,0,none⟩ = some (.int .i64 a0_0):=(blk_cell BK272.out 0).trans rfl
    have hcz6_1:w3.cell? ⟨gb272,1,none⟩ = some (.int .i64 a0_1):=(blk_cell BK272.out 1).trans rfl
    have hcz6_2:w3.cell? ⟨gb272,2,none⟩ = some (.slice A0_2 l0_2.length c0_2):=(blk_cell BK272.out 2).trans rfl
    have hfz6_0:=blk_frozen BK272.out 0
    have hfz6_1:=blk_frozen BK272.out 1
    have hfz6_2:=blk_frozen BK272.out 2
    go_wp2
    go_meet
    case rel=>exact ⟨_,(true),(by rfl),H',⟨by omega⟩,⟨by exact BK272.out⟩,⟨HB.out⟩⟩
   ·rw [if_neg c5] at H
    have c5b0:(a0_1 == 0) = false:=beq_eq_false_iff_ne.mpr c5
    have c5b1:(a0_1 != 0) = true:=bne_iff_ne.mpr c5
    have H':=Aside0.mk H
    clear H
    have hcz7_0:w3.cell? ⟨gb272,0,none⟩ = some (.int .i64 a0_0):=(blk_cell BK272.out 0).trans rfl
    have hcz7_1:w3.cell? ⟨gb272,1,none⟩ = some (.int .i64 a0_1):=(blk_cell BK272.out 1).trans rfl
    have hcz7_2:w3.cell? ⟨gb272,2,none⟩ = some (.slice A0_2 l0_2.length c0_2):=(blk_cell BK272.out 2).trans rfl
    have hfz7_0:=blk_frozen BK272.out 0
    have hfz7_1:=blk_frozen BK272.out 1
    have hfz7_2:=blk_frozen BK272.out 2
    go_wp2
    go_meet
    case rel=>exact ⟨_,(false),(by rfl),H',⟨by omega⟩,⟨by exact BK272.out⟩,⟨HB.out⟩⟩
  ·rw [if_neg c4] at H
   have c4b0:(a0_0 == 0) = false:=beq_eq_false_iff_ne.mpr c4
   have c4b1:(a0_0 != 0) = true:=bne_iff_ne.mpr c4
   (skip)
   have H':=Aside0.mk H
   clear H
   have hcz8_0:w3.cell? ⟨gb272,0,none⟩ = some (.int .i64 a0_0):=(blk_cell BK272.out 0).trans rfl
   have hcz8_1:w3.cell? ⟨gb272,1,none⟩ = some (.int .i64 a0_1):=(blk_cell BK272.out 1).trans rfl
   have hcz8_2:w3.cell? ⟨gb272,2,none⟩ = some (.slice A0_2 l0_2.length c0_2):=(blk_cell BK272.out 2).trans rfl
   have hfz8_0:=blk_frozen BK272.out 0
   have hfz8_1:=blk_frozen BK272.out 1
   have hfz8_2:=blk_frozen BK272.out 2
   go_wp2
   go_meet
   case rel=>exact ⟨_,((a0_1 != 0)),(by rfl),H',⟨by omega⟩,⟨by exact BK272.out⟩,⟨HB.out⟩⟩
 case rest =>
  clear HC2
  obtain ⟨kq,x20_1,rfl,HA,HJ1,BK272,HB⟩:=hcut
  cases kq with
  | zero=>exact absurd HA.out (by simp [chanceryref1_ElemError.j0])
  | succ kj1 =>
   have H:=HA.out
   clear HA
   simp only [chanceryref1_ElemError.j0] at H
   by_cases c9:x20_1 = true
   ·subst c9
    have H1:(some 4) = some r:=by rw [if_pos rfl] at H;exact H
    clear H
    have H:=H1
    clear H1
    obtain rfl:=Option.some.inj H
    go_wp2
    go_ret
    exact ⟨by rfl,HB.out⟩
   ·replace c9:=Bool.eq_false_iff.mpr c9
    subst c9
    have H1:(if a0_0 = 0 then (if a0_1 = 0 then ((chanceryref1_AttrsError.f kj1 l0_2 false).bind fun t273=>(some t273)) else ((chanceryref1_In.f a0_1 1 1073741824).bind fun t274=>(if t274 = true then ((chanceryref1_AttrsError.f kj1 l0_2 false).bind fun t275=>(some t275)) else (some 2)))) else ((chanceryref1_Char.f a0_0).bind fun t276=>(if t276 = true then (if a0_1 = 0 then ((chanceryref1_AttrsError.f kj1 l0_2 false).bind fun t277=>(some t277)) else ((chanceryref1_In.f a0_1 1 1073741824).bind fun t278=>(if t278 = true then ((chanceryref1_AttrsError.f kj1 l0_2 false).bind fun t279=>(some t279)) else (some 2)))) else (some 2)))) = some r:=by rw [if_neg (show ¬ (false = true) by decide)] at H;exact H
    clear H
    have H:=H1
    clear H1
    by_cases c10:a0_0 = 0
    ·rw [if_pos c10] at H
     have c10b0:(a0_0 == 0) = true:=beq_iff_eq.mpr c10
     have c10b1:(a0_0 != 0) = false:=bne_eq_false_iff_eq.mpr c10
     clear c10
     by_cases c11:a0_1 = 0
     ·rw [if_pos c11] at H
      have c11b0:(a0_1 == 0) = true:=beq_iff_eq.mpr c11
      have c11b1:(a0_1 != 0) = false:=bne_eq_false_iff_eq.mpr c11
      clear c11
      replace H:=Option.bind_eq_some_iff.mp H
      obtain ⟨t273,A120,H⟩:=H
      replace H:(some t273) = some r:=H
      have A12:=Aside0.mk A120
      clear A120
      obtain rfl:=Option.some.inj H
      have hcz13_0:wc.cell? ⟨gb272,0,none⟩ = some (.int .i64 a0_0):=(blk_cell BK272.out 0).trans rfl
      have hcz13_1:wc.cell? ⟨gb272,1,none⟩ = some (.int .i64 a0_1):=(blk_cell BK272.out 1).trans rfl
      have hcz13_2:wc.cell? ⟨gb272,2,none⟩ = some (.slice A0_2 l0_2.length c0_2):=(blk_cell BK272.out 2).trans rfl
      have hfz13_0:=blk_frozen BK272.out 0
      have hfz13_1:=blk_frozen BK272.out 1
      have hfz13_2:=blk_frozen BK272.out 2
      go_wp2_with (((with_reducible refine gate_callee (f:=87) rfl ?_);refine goesL_ (some 43) rfl rfl Try.func87 (by kernel_rfl) rfl #[.slice A0_2 l0_2.length c0_2,.bool false] rfl (by (try simp only [List.map_toArray,List.map_cons,List.map_nil]);rfl) ?_;(with_reducible refine (chanceryref1_AttrsError.calls kj1 _ _ l0_2 false t273 _ ?side1 ?side2 A12.out).mono ?_);(case side1=>repeat (exact (Kd.C_below HR0_2.out HB.out)));(case side2=>exact HC0_2.out);rintro e w' ⟨rfl,⟨nd,rfl⟩⟩;refine ⟨_,rfl,?_⟩))
      go_ret
      exact ⟨by rfl,by repeat ((with_reducible first | exact HB.out | apply pw_below_drewN))⟩
     ·rw [if_neg c11] at H
      have c11b0:(a0_1 == 0) = false:=beq_eq_false_iff_ne.mpr c11
      have c11b1:(a0_1 != 0) = true:=bne_iff_ne.mpr c11
      replace H:=Option.bind_eq_some_iff.mp H
      obtain ⟨t274,A140,H⟩:=H
      replace H:(if t274 = true then ((chanceryref1_AttrsError.f kj1 l0_2 false).bind fun t275=>(some t275)) else (some 2)) = some r:=H
      have A14:=Aside0.mk A140
      clear A140
      by_cases c15:t274 = true
      ·subst c15
       have H1:((chanceryref1_AttrsError.f kj1 l0_2 false).bind fun t275=>(some t275)) = some r:=by rw [if_pos rfl] at H;exact H
       clear H
       have H:=H1
       clear H1
       replace H:=Option.bind_eq_some_iff.mp H
       obtain ⟨t275,A160,H⟩:=H
       replace H:(some t275) = some r:=H
       have A16:=Aside0.mk A160
       clear A160
       obtain rfl:=Option.some.inj H
       have hcz17_0:wc.cell? ⟨gb272,0,none⟩ = some (.int .i64 a0_0):=(blk_cell BK272.out 0).trans rfl
       have hcz17_1:wc.cell? ⟨gb272,1,none⟩ = some (.int .i64 a0_1):=(blk_cell BK272.out 1).trans rfl
       have hcz17_2:wc.cell? ⟨gb272,2,none⟩ = some (.slice A0_2 l0_2.length c0_2):=(blk_cell BK272.out 2).trans rfl
       have hfz17_0:=blk_frozen BK272.out 0
       have hfz17_1:=blk_frozen BK272.out 1
       have hfz17_2:=blk_frozen BK272.out 2
       go_wp2_with (first | (go_at_call 24;(with_reducible refine (chanceryref1_In.calls a0_1 1 1073741824 true _ A14.out).mono ?_);rintro e w' ⟨rfl,⟨nd,rfl⟩⟩) | ((with_reducible refine gate_callee (f:=87) rfl ?_);refine goesL_ (some 43) rfl rfl Try.func87 (by kernel_rfl) rfl #[.slice A0_2 l0_2.length c0_2,.bool false] rfl (by (try simp only [List.map_toArray,List.map_cons,List.map_nil]);rfl) ?_;(with_reducible refine (chanceryref1_AttrsError.calls kj1 _ _ l0_2 false t275 _ ?side1 ?side2 A16.out).mono ?_);(case side1=>repeat (exact (Kd.C_below HR0_2.out (by repeat ((with_reducible first | exact HB.out | apply pw_below_drewN))))));(case side2=>exact HC0_2.out);rintro e w' ⟨rfl,⟨nd,rfl⟩⟩;refine ⟨_,rfl,?_⟩))
       go_ret
       exact ⟨by rfl,by repeat ((with_reducible first | exact HB.out | apply pw_below_drewN))⟩
      ·replace c15:=Bool.eq_false_iff.mpr c15
       subst c15
       have H1:(some 2) = some r:=by rw [if_neg (show ¬ (false = true) by decide)] at H;exact H
       clear H
       have H:=H1
       clear H1
       obtain rfl:=Option.some.inj H
       have hcz18_0:wc.cell? ⟨gb272,0,none⟩ = some (.int .i64 a0_0):=(blk_cell BK272.out 0).trans rfl
       have hcz18_1:wc.cell? ⟨gb272,1,none⟩ = some (.int .i64 a0_1):=(blk_cell BK272.out 1).trans rfl
       have hcz18_2:wc.cell? ⟨gb272,2,none⟩ = some (.slice A0_2 l0_2.length c0_2):=(blk_cell BK272.out 2).trans rfl
       have hfz18_0:=blk_frozen BK272.out 0
       have hfz18_1:=blk_frozen BK272.out 1
       have hfz18_2:=blk_frozen BK272.out 2
       go_wp2_with ((go_at_call 24;(with_reducible refine (chanceryref1_In.calls a0_1 1 1073741824 false _ A14.out).mono ?_);rintro e w' ⟨rfl,⟨nd,rfl⟩⟩))
       go_ret
       exact ⟨by rfl,by repeat ((with_reducible first | exact HB.out | apply pw_below_drewN))⟩
    ·rw [if_neg c10] at H
     have c10b0:(a0_0 == 0) = false:=beq_eq_false_iff_ne.mpr c10
     have c10b1:(a0_0 != 0) = true:=bne_iff_ne.mpr c10
     replace H:=Option.bind_eq_some_iff.mp H
     obtain ⟨t276,A190,H⟩:=H
     replace H:(if t276 = true then (if a0_1 = 0 then ((chanceryref1_AttrsError.f kj1 l0_2 false).bind fun t277=>(some t277)) else ((chanceryref1_In.f a0_1 1 1073741824).bind fun t278=>(if t278 = true then ((chanceryref1_AttrsError.f kj1 l0_2 false).bind fun t279=>(some t279)) else (some 2)))) else (some 2)) = some r:=H
     have A19:=Aside0.mk A190
     clear A190
     by_cases c20:t276 = true
     ·subst c20
      have H1:(if a0_1 = 0 then ((chanceryref1_AttrsError.f kj1 l0_2 false).bind fun t277=>(some t277)) else ((chanceryref1_In.f a0_1 1 1073741824).bind fun t278=>(if t278 = true then ((chanceryref1_AttrsError.f kj1 l0_2 false).bind fun t279=>(some t279)) else (some 2)))) = some r:=by rw [if_pos rfl] at H;exact H
      clear H
      have H:=H1
      clear H1
      by_cases c21:a0_1 = 0
      ·rw [if_pos c21] at H
       have c21b0:(a0_1 == 0) = true:=beq_iff_eq.mpr c21
       have c21b1:(a0_1 != 0) = false:=bne_eq_false_iff_eq.mpr c21
       clear c21
       replace H:=Option.bind_eq_some_iff.mp H
       obtain ⟨t277,A220,H⟩:=H
       replace H:(some t277) = some r:=H
       have A22:=Aside0.mk A220
       clear A220
       obtain rfl:=Option.some.inj H
       have hcz23_0:wc.cell? ⟨gb272,0,none⟩ = some (.int .i64 a0_0):=(blk_cell BK272.out 0).trans rfl
       have hcz23_1:wc.cell? ⟨gb272,1,none⟩ = some (.int .i64 a0_1):=(blk_cell BK272.out 1).trans rfl
       have hcz23_2:wc.cell? ⟨gb272,2,none⟩ = some (.slice A0_2 l0_2.length c0_2):=(blk_cell BK272.out 2).trans rfl
       have hfz23_0:=blk_frozen BK272.out 0
       have hfz23_1:=blk_frozen BK272.out 1
       have hfz23_2:=blk_frozen BK272.out 2
       go_wp2_with (first | (go_at_call 86;(with_reducible refine (chanceryref1_Char.calls a0_0 true _ A19.out).mono ?_);rintro e w' ⟨rfl,⟨nd,rfl⟩⟩) | ((with_reducible refine gate_callee (f:=87) rfl ?_);refine goesL_ (some 43) rfl rfl Try.func87 (by kernel_rfl) rfl #[.slice A0_2 l0_2.length c0_2,.bool false] rfl (by (try simp only [List.map_toArray,List.map_cons,List.map_nil]);rfl) ?_;(with_reducible refine (chanceryref1_AttrsError.calls kj1 _ _ l0_2 false t277 _ ?side1 ?side2 A22.out).mono ?_);(case side1=>repeat (exact (Kd.C_below HR0_2.out (by repeat ((with_reducible first | exact HB.out | apply pw_below_drewN))))));(case side2=>exact HC0_2.out);rintro e w' ⟨rfl,⟨nd,rfl⟩⟩;refine ⟨_,rfl,?_⟩))
       go_ret
       exact ⟨by rfl,by repeat ((with_reducible first | exact HB.out | apply pw_below_drewN))⟩
      ·rw [if_neg c21] at H
       have c21b0:(a0_1 == 0) = false:=beq_eq_false_iff_ne.mpr c21
       have c21b1:(a0_1 != 0) = true:=bne_iff_ne.mpr c21
       replace H:=Option.bind_eq_some_iff.mp H
       obtain ⟨t278,A240,H⟩:=H
       replace H:(if t278 = true then ((chanceryref1_AttrsError.f kj1 l0_2 false).bind fun t279=>(some t279)) else (some 2)) = some r:=H
       have A24:=Aside0.mk A240
       clear A240
       by_cases c25:t278 = true
       ·subst c25
        have H1:((chanceryref1_AttrsError.f kj1 l0_2 false).bind fun t279=>(some t279)) = some r:=by rw [if_pos rfl] at H;exact H
        clear H
        have H:=H1
        clear H1
        replace H:=Option.bind_eq_some_iff.mp H
        obtain ⟨t279,A260,H⟩:=H
        replace H:(some t279) = some r:=H
        have A26:=Aside0.mk A260
        clear A260
        obtain rfl:=Option.some.inj H
        have hcz27_0:wc.cell? ⟨gb272,0,none⟩ = some (.int .i64 a0_0):=(blk_cell BK272.out 0).trans rfl
        have hcz27_1:wc.cell? ⟨gb272,1,none⟩ = some (.int .i64 a0_1):=(blk_cell BK272.out 1).trans rfl
        have hcz27_2:wc.cell? ⟨gb272,2,none⟩ = some (.slice A0_2 l0_2.length c0_2):=(blk_cell BK272.out 2).trans rfl
        have hfz27_0:=blk_frozen BK272.out 0
        have hfz27_1:=blk_frozen BK272.out 1
        have hfz27_2:=blk_frozen BK272.out 2
        go_wp2_with (first | (go_at_call 86;(with_reducible refine (chanceryref1_Char.calls a0_0 true _ A19.out).mono ?_);rintro e w' ⟨rfl,⟨nd,rfl⟩⟩) | (go_at_call 24;(with_reducible refine (chanceryref1_In.calls a0_1 1 1073741824 true _ A24.out).mono ?_);rintro e w' ⟨rfl,⟨nd,rfl⟩⟩) | ((with_reducible refine gate_callee (f:=87) rfl ?_);refine goesL_ (some 43) rfl rfl Try.func87 (by kernel_rfl) rfl #[.slice A0_2 l0_2.length c0_2,.bool false] rfl (by (try simp only [List.map_toArray,List.map_cons,List.map_nil]);rfl) ?_;(with_reducible refine (chanceryref1_AttrsError.calls kj1 _ _ l0_2 false t279 _ ?side1 ?side2 A26.out).mono ?_);(case side1=>repeat (exact (Kd.C_below HR0_2.out (by repeat ((with_reducible first | exact HB.out | apply pw_below_drewN))))));(case side2=>exact HC0_2.out);rintro e w' ⟨rfl,⟨nd,rfl⟩⟩;refine ⟨_,rfl,?_⟩))
        go_ret
        exact ⟨by rfl,by repeat ((with_reducible first | exact HB.out | apply pw_below_drewN))⟩
       ·replace c25:=Bool.eq_false_iff.mpr c25
        subst c25
        have H1:(some 2) = some r:=by rw [if_neg (show ¬ (false = true) by decide)] at H;exact H
        clear H
        have H:=H1
        clear H1
        obtain rfl:=Option.some.inj H
        have hcz28_0:wc.cell? ⟨gb272,0,none⟩ = some (.int .i64 a0_0):=(blk_cell BK272.out 0).trans rfl
        have hcz28_1:wc.cell? ⟨gb272,1,none⟩ = some (.int .i64 a0_1):=(blk_cell BK272.out 1).trans rfl
        have hcz28_2:wc.cell? ⟨gb272,2,none⟩ = some (.slice A0_2 l0_2.length c0_2):=(blk_cell BK272.out 2).trans rfl
        have hfz28_0:=blk_frozen BK272.out 0
        have hfz28_1:=blk_frozen BK272.out 1
        have hfz28_2:=blk_frozen BK272.out 2
        go_wp2_with (first | (go_at_call 86;(with_reducible refine (chanceryref1_Char.calls a0_0 true _ A19.out).mono ?_);rintro e w' ⟨rfl,⟨nd,rfl⟩⟩) | (go_at_call 24;(with_reducible refine (chanceryref1_In.calls a0_1 1 1073741824 false _ A24.out).mono ?_);rintro e w' ⟨rfl,⟨nd,rfl⟩⟩))
        go_ret
        exact ⟨by rfl,by repeat ((with_reducible first | exact HB.out | apply pw_below_drewN))⟩
     ·replace c20:=Bool.eq_false_iff.mpr c20
      subst c20
      have H1:(some 2) = some r:=by rw [if_neg (show ¬ (false = true) by decide)] at H;exact H
      clear H
      have H:=H1
      clear H1
      obtain rfl:=Option.some.inj H
      have hcz29_0:wc.cell? ⟨gb272,0,none⟩ = some (.int .i64 a0_0):=(blk_cell BK272.out 0).trans rfl
      have hcz29_1:wc.cell? ⟨gb272,1,none⟩ = some (.int .i64 a0_1):=(blk_cell BK272.out 1).trans rfl
      have hcz29_2:wc.cell? ⟨gb272,2,none⟩ = some (.slice A0_2 l0_2.length c0_2):=(blk_cell BK272.out 2).trans rfl
      have hfz29_0:=blk_frozen BK272.out 0
      have hfz29_1:=blk_frozen BK272.out 1
      have hfz29_2:=blk_frozen BK272.out 2
      go_wp2_with ((go_at_call 86;(with_reducible refine (chanceryref1_Char.calls a0_0 false _ A19.out).mono ?_);rintro e w' ⟨rfl,⟨nd,rfl⟩⟩))
      go_ret
      exact ⟨by rfl,by repeat ((with_reducible first | exact HB.out | apply pw_below_drewN))⟩
def flow_Same.l0:Nat → List (S26) → List (S26) → Int → Int → Option (Bool)
 | 0,_,_,_,_=>none
 | k + 1,x1,x13,x14,x15=>if x15 < x14 then (if 0 ≤ x15 then (if x15 < (x13.length:Int) then (if x15 < (x1.length:Int) then (if ((rd_T26 x13 x15).f0) = ((rd_T26 x1 x15).f0) then (if ((rd_T26 x13 x15).f1) = ((rd_T26 x1 x15).f1) then ((attr_Same.f k ((rd_T26 x13 x15).f2) ((rd_T26 x1 x15).f2)).bind fun t580=>(if t580 = true then (flow_Same.l0 k x1 x13 x14 (wrap64 (x15 + 1))) else (some false))) else (some false)) else (some false)) else (none)) else (none)) else (none)) else (some true)
def flow_Same.f (k:Nat) (l0:List (S26)) (l1:List (S26)):Option (Bool):=if (l0.length:Int) = (l1.length:Int) then (flow_Same.l0 k l1 l0 (l0.length:Int) 0) else (some false)
set_option maxHeartbeats 8000000 in
set_option maxRecDepth 100000 in
theorem flow_Same.calls (k:Nat) (A0:Option Addr) (c0:Nat) (l0:List (S26)) (A1:Option Addr) (c1:Nat) (l1:List (S26)) (r:Bool) (w:World) (hr0:Kd.C k26 w A0 l0.length l0) (hc0:l0.length ≤ c0) (hr1:Kd.C k26 w A1 l1.length l1) (hc1:l1.length ≤ c1) (h:flow_Same.f k l0 l1 = some r) :
 Calls Try.prog 135 #[.slice A0 l0.length c0,.slice A1 l1.length c1] w fun e w'=>e = .returned (.bool r) ∧ Below w.heap.size w w':=by
 have hu26:=Try.underlying26
 have HR0:=Aside0.mk hr0
 have HC0:=Aside0.mk hc0
 clear hr0 hc0
 have HR1:=Aside0.mk hr1
 have HC1:=Aside0.mk hc1
 clear hr1 hc1
 have HB:=Aside0.mk (Below.refl w.heap.size w)
 have H:(if (l0.length:Int) = (l1.length:Int) then (flow_Same.l0 k l1 l0 (l0.length:Int) 0) else (some false)) = some r:=h
 clear h
 by_cases c3:(l0.length:Int) = (l1.length:Int)
 ·rw [if_pos c3] at H
  have c3b0:((l0.length:Int) == (l1.length:Int)) = true:=beq_iff_eq.mpr c3
  have c3b1:((l0.length:Int) != (l1.length:Int)) = false:=bne_eq_false_iff_eq.mpr c3
  have c3b2:(l0.length == l1.length) = true:=by (simp at c3 ⊢;omega)
  clear c3
  have H':=Aside0.mk H
  clear H
  go_enter Try.func135,Try.ntmps135
  go_wp2
  go_loopg [15] k (fun kq v15 w'=>∃ (x15_1:Int),v15 = .int .i64 x15_1 ∧ Aside0 (flow_Same.l0 kq l1 l0 (l0.length:Int) x15_1 = some r) ∧ Aside0 (kq ≤ k) ∧ Aside0 (Below w.heap.size w w'))
  case atStart=>exact ⟨(0),(by rfl),H',⟨Nat.le_refl _⟩,⟨HB.out⟩⟩
  case round =>
   clear H'
   try clear c3b0
   try clear c3b1
   try clear c3b2
   obtain ⟨x15_1,rfl,HA,HK1,HB⟩:=hrel
   cases gk with
   | zero=>exact absurd HA.out (by simp [flow_Same.l0])
   | succ k1 =>
    have H:=HA.out
    clear HA
    simp only [flow_Same.l0] at H
    by_cases c4:x15_1 < (l0.length:Int)
    ·rw [if_pos c4] at H
     have c4b0:decide (x15_1 < (l0.length:Int)) = true:=decide_eq_true c4
     clear c4
     by_cases c5:0 ≤ x15_1
     ·rw [if_pos c5] at H
      have c5b0:decide (0 ≤ x15_1) = true:=decide_eq_true c5
      clear c5
      by_cases c6:x15_1 < (l0.length:Int)
      ·rw [if_pos c6] at H
       have c6b0:decide (x15_1 < (l0.length:Int)) = true:=decide_eq_true c6
       clear c6
       by_cases c7:x15_1 < (l1.length:Int)
       ·rw [if_pos c7] at H
        have c7b0:decide (x15_1 < (l1.length:Int)) = true:=decide_eq_true c7
        clear c7
        by_cases c8:((rd_T26 l0 x15_1).f0) = ((rd_T26 l1 x15_1).f0)
        ·rw [if_pos c8] at H
         have c8b0:(((rd_T26 l0 x15_1).f0) == ((rd_T26 l1 x15_1).f0)) = true:=beq_iff_eq.mpr c8
         have c8b1:(((rd_T26 l0 x15_1).f0) != ((rd_T26 l1 x15_1).f0)) = false:=bne_eq_false_iff_eq.mpr c8
         clear c8
         by_cases c9:((rd_T26 l0 x15_1).f1) = ((rd_T26 l1 x15_1).f1)
         ·rw [if_pos c9] at H
          have c9b0:(((rd_T26 l0 x15_1).f1) == ((rd_T26 l1 x15_1).f1)) = true:=beq_iff_eq.mpr c9
          have c9b1:(((rd_T26 l0 x15_1).f1) != ((rd_T26 l1 x15_1).f1)) = false:=bne_eq_false_iff_eq.mpr c9
          clear c9
          replace H:=Option.bind_eq_some_iff.mp H
          obtain ⟨t580,A100,H⟩:=H
          replace H:(if t580 = true then (flow_Same.l0 k1 l1 l0 (l0.length:Int) (wrap64 (x15_1 + 1))) else (some false)) = some r:=H
          have A10:=Aside0.mk A100
          clear A100
          by_cases c11:t580 = true
          ·subst c11
           have H1:(flow_Same.l0 k1 l1 l0 (l0.length:Int) (wrap64 (x15_1 + 1))) = some r:=by rw [if_pos rfl] at H;exact H
           clear H
           have H:=H1
           clear H1
           have H':=Aside0.mk H
           clear H
           have p576:0 ≤ (x15_1:Int):=of_decide_eq_true (by assumption)
           have q576:x15_1 < (l0.length:Int):=of_decide_eq_true (by assumption)
           obtain ⟨ad576,A576_2,c576_2,e576,hx576_0,hx576_1,hx576_2,hl576_2,hi576_2⟩:=at_T26 HR0.out x15_1 p576 q576
           cases e576
           replace hx576_0:=(HB.out.cell (World.block_lt_of_cell? w _ hx576_0)).trans hx576_0
           replace hx576_1:=(HB.out.cell (World.block_lt_of_cell? w _ hx576_1)).trans hx576_1
           replace hx576_2:=(HB.out.cell (World.block_lt_of_cell? w _ hx576_2)).trans hx576_2
           have HR576_2:=Aside0.mk hi576_2
           have HC576_2:=Aside0.mk hl576_2
           clear hi576_2 hl576_2
           replace p576:=eq_true p576
           replace q576:=eq_true q576
           go_wp2_with (first | ((with_reducible refine gate_dst (N:=6) rfl ?_);refine box_event ?hg (N:=6) ?hd (cs:=#[.int .i64 0,.int .i64 0,.slice none 0 0]) (t:=26) ?hr ?_;(case hd=>rfl);(case hg=>rfl);(case hr=>(go_simp;done));intro gb577 hg w12 hbox hb;have n0_:=Aside0.mk (below_step (by with_reducible exact HB.out) hb);have n1_:=Aside0.mk hbox;have n2_:=Aside0.mk ((by rw [hg];exact (below_size (by with_reducible exact HB.out)):w.heap.size ≤ gb577));have n3_:=Aside0.mk ((by rw [hg];exact (below_size (by with_reducible exact HB.out)):w.heap.size ≤ gb577));clear HB;have HB:=n0_;have BK577:=n1_;have GW577:=n2_;have GE577:=n3_;clear n0_ n1_ n2_ n3_;clear hb hbox hg;have hcz13_0:w12.cell? ⟨gb577,0,none⟩ = some (.int .i64 0):=(blk_cell BK577.out 0).trans rfl;have hcz13_1:w12.cell? ⟨gb577,1,none⟩ = some (.int .i64 0):=(blk_cell BK577.out 1).trans rfl;have hcz13_2:w12.cell? ⟨gb577,2,none⟩ = some (.slice none 0 0):=(blk_cell BK577.out 2).trans rfl;have hfz13_0:=blk_frozen BK577.out 0;have hfz13_1:=blk_frozen BK577.out 1;have hfz13_2:=blk_frozen BK577.out 2;have p578:0 ≤ (x15_1:Int):=of_decide_eq_true (by assumption);have q578:x15_1 < (l1.length:Int):=of_decide_eq_true (by assumption);obtain ⟨ad578,A578_2,c578_2,e578,hx578_0,hx578_1,hx578_2,hl578_2,hi578_2⟩:=at_T26 HR1.out x15_1 p578 q578;cases e578;have hn578_0:ad578.block ≠ gb577:=Nat.ne_of_lt (Nat.lt_of_lt_of_le (by have:=World.block_lt_of_cell? _ _ hx578_0;rwa [add_block] at this) GW577.out);have hn578_1:ad578.block ≠ gb577:=Nat.ne_of_lt (Nat.lt_of_lt_of_le (by have:=World.block_lt_of_cell? _ _ hx578_0;rwa [add_block] at this) GW577.out);have hn578_2:ad578.block ≠ gb577:=Nat.ne_of_lt (Nat.lt_of_lt_of_le (by have:=World.block_lt_of_cell? _ _ hx578_0;rwa [add_block] at this) GW577.out);replace hx578_0:=(HB.out.cell (World.block_lt_of_cell? w _ hx578_0)).trans hx578_0;replace hx578_1:=(HB.out.cell (World.block_lt_of_cell? w _ hx578_1)).trans hx578_1;replace hx578_2:=(HB.out.cell (World.block_lt_of_cell? w _ hx578_2)).trans hx578_2;have HR578_2:=Aside0.mk hi578_2;have HC578_2:=Aside0.mk hl578_2;clear hi578_2 hl578_2;replace hx578_0:=(cell_far (p:=⟨gb577,0,none⟩) (by (rw [add_block];exact hn578_0)) (.int .i64 ((rd_T26 l0 x15_1).f0))).trans hx578_0;replace hx578_1:=(cell_far (p:=⟨gb577,0,none⟩) (by (rw [add_block];exact hn578_0)) (.int .i64 ((rd_T26 l0 x15_1).f0))).trans hx578_1;replace hx578_2:=(cell_far (p:=⟨gb577,0,none⟩) (by (rw [add_block];exact hn578_0)) (.int .i64 ((rd_T26 l0 x15_1).f0))).trans hx578_2;replace hx578_0:=(cell_far (p:=⟨gb577,1,none⟩) (by (rw [add_block];exact hn578_1)) (.int .i64 ((rd_T26 l0 x15_1).f1))).trans hx578_0;replace hx578_1:=(cell_far (p:=⟨gb577,1,none⟩) (by (rw [add_block];exact hn578_1)) (.int .i64 ((rd_T26 l0 x15_1).f1))).trans hx578_1;replace hx578_2:=(cell_far (p:=⟨gb577,1,none⟩) (by (rw [add_block];exact hn578_1)) (.int .i64 ((rd_T26 l0 x15_1).f1))).trans hx578_2;replace hx578_0:=(cell_far (p:=⟨gb577,2,none⟩) (by (rw [add_block];exact hn578_2)) (.slice A576_2 ((rd_T26 l0 x15_1).f2).length c576_2)).trans hx578_0;replace hx578_1:=(cell_far (p:=⟨gb577,2,none⟩) (by (rw [add_block];exact hn578_2)) (.slice A576_2 ((rd_T26 l0 x15_1).f2).length c576_2)).trans hx578_1;replace hx578_2:=(cell_far (p:=⟨gb577,2,none⟩) (by (rw [add_block];exact hn578_2)) (.slice A576_2 ((rd_T26 l0 x15_1).f2).length c576_2)).trans hx578_2;clear hn578_0;clear hn578_1;clear hn578_2;replace p578:=eq_true p578;replace q578:=eq_true q578) | ((with_reducible refine gate_dst (N:=7) rfl ?_);refine box_event ?hg (N:=7) ?hd (cs:=#[.int .i64 0,.int .i64 0,.slice none 0 0]) (t:=26) ?hr ?_;(case hd=>rfl);(case hg=>rfl);(case hr=>(go_simp;done));intro gb579 hg w14 hbox hb;have n0_:=Aside0.mk (blk_below (g:=gb577) (o:=.cells #[.int .i64 ((rd_T26 l0 x15_1).f0),.int .i64 ((rd_T26 l0 x15_1).f1),.slice A576_2 ((rd_T26 l0 x15_1).f2).length c576_2] 26 (0,0)) (by (with_reducible repeat (first | refine blk_drewN ?_ _ | refine blk_drew ?_ | refine blk_alloc ?_ _));refine blk_put (cs:=#[.int .i64 ((rd_T26 l0 x15_1).f0),.int .i64 ((rd_T26 l0 x15_1).f1),.slice none 0 0]) ?_ 2 _ rfl;(with_reducible repeat (first | refine blk_drewN ?_ _ | refine blk_drew ?_ | refine blk_alloc ?_ _));refine blk_put (cs:=#[.int .i64 ((rd_T26 l0 x15_1).f0),.int .i64 0,.slice none 0 0]) ?_ 1 _ rfl;(with_reducible repeat (first | refine blk_drewN ?_ _ | refine blk_drew ?_ | refine blk_alloc ?_ _));refine blk_put (cs:=#[.int .i64 0,.int .i64 0,.slice none 0 0]) ?_ 0 _ rfl;exact BK577.out) hb);have n1_:=Aside0.mk (below_step (by repeat ((with_reducible first | exact HB.out | refine below_set ?_ GE577.out))) hb);have n2_:=Aside0.mk hbox;have n3_:=Aside0.mk ((by rw [hg];exact (below_size (by repeat ((with_reducible first | exact HB.out | refine below_set ?_ GE577.out)))):w.heap.size ≤ gb579));have n4_:=Aside0.mk ((by rw [hg];exact (below_size (by repeat ((with_reducible first | exact HB.out | refine below_set ?_ GE577.out)))):w.heap.size ≤ gb579));have n5_:=Aside0.mk ((by rw [hg];exact Nat.ne_of_lt (blk_lt (g:=gb577) (o:=.cells #[.int .i64 ((rd_T26 l0 x15_1).f0),.int .i64 ((rd_T26 l0 x15_1).f1),.slice A576_2 ((rd_T26 l0 x15_1).f2).length c576_2] 26 (0,0)) (by (with_reducible repeat (first | refine blk_drewN ?_ _ | refine blk_drew ?_ | refine blk_alloc ?_ _));refine blk_put (cs:=#[.int .i64 ((rd_T26 l0 x15_1).f0),.int .i64 ((rd_T26 l0 x15_1).f1),.slice none 0 0]) ?_ 2 _ rfl;(with_reducible repeat (first | refine blk_drewN ?_ _ | refine blk_drew ?_ | refine blk_alloc ?_ _));refine blk_put (cs:=#[.int .i64 ((rd_T26 l0 x15_1).f0),.int .i64 0,.slice none 0 0]) ?_ 1 _ rfl;(with_reducible repeat (first | refine blk_drewN ?_ _ | refine blk_drew ?_ | refine blk_alloc ?_ _));refine blk_put (cs:=#[.int .i64 0,.int .i64 0,.slice none 0 0]) ?_ 0 _ rfl;exact BK577.out)):gb577 ≠ gb579));have n6_:=Aside0.mk ((by rw [hg];exact Nat.ne_of_gt (blk_lt (g:=gb577) (o:=.cells #[.int .i64 ((rd_T26 l0 x15_1).f0),.int .i64 ((rd_T26 l0 x15_1).f1),.slice A576_2 ((rd_T26 l0 x15_1).f2).length c576_2] 26 (0,0)) (by (with_reducible repeat (first | refine blk_drewN ?_ _ | refine blk_drew ?_ | refine blk_alloc ?_ _));refine blk_put (cs:=#[.int .i64 ((rd_T26 l0 x15_1).f0),.int .i64 ((rd_T26 l0 x15_1).f1),.slice none 0 0]) ?_ 2 _ rfl;(with_reducible repeat (first | refine blk_drewN ?_ _ | refine blk_drew ?_ | refine blk_alloc ?_ _));refine blk_put (cs:=#[.int .i64 ((rd_T26 l0 x15_1).f0),.int .i64 0,.slice none 0 0]) ?_ 1 _ rfl;(with_reducible repeat (first | refine blk_drewN ?_ _ | refine blk_drew ?_ | refine blk_alloc ?_ _));refine blk_put (cs:=#[.int .i64 0,.int .i64 0,.slice none 0 0]) ?_ 0 _ rfl;exact BK577.out)):gb579 ≠ gb577));clear BK577;clear HB;have BK577:=n0_;have HB:=n1_;have BK579:=n2_;have GW579:=n3_;have GE579:=n4_;have NB577_579:=n5_;have NB579_577:=n6_;clear n0_ n1_ n2_ n3_ n4_ n5_ n6_;clear hb hbox hg;have hnb15:=NB579_577.out;have hnc15:=NB577_579.out;have hcz16_0:w14.cell? ⟨gb579,0,none⟩ = some (.int .i64 0):=(blk_cell BK579.out 0).trans rfl;have hcz16_1:w14.cell? ⟨gb579,1,none⟩ = some (.int .i64 0):=(blk_cell BK579.out 1).trans rfl;have hcz16_2:w14.cell? ⟨gb579,2,none⟩ = some (.slice none 0 0):=(blk_cell BK579.out 2).trans rfl;have hfz16_0:=blk_frozen BK579.out 0;have hfz16_1:=blk_frozen BK579.out 1;have hfz16_2:=blk_frozen BK579.out 2;have hcz17_0:w14.cell? ⟨gb577,0,none⟩ = some (.int .i64 ((rd_T26 l0 x15_1).f0)):=(blk_cell BK577.out 0).trans rfl;have hcz17_1:w14.cell? ⟨gb577,1,none⟩ = some (.int .i64 ((rd_T26 l0 x15_1).f1)):=(blk_cell BK577.out 1).trans rfl;have hcz17_2:w14.cell? ⟨gb577,2,none⟩ = some (.slice A576_2 ((rd_T26 l0 x15_1).f2).length c576_2):=(blk_cell BK577.out 2).trans rfl;have hfz17_0:=blk_frozen BK577.out 0;have hfz17_1:=blk_frozen BK577.out 1;have hfz17_2:=blk_frozen BK577.out 2) | (go_at_call 105;(with_reducible refine (attr_Same.calls k1 _ _ ((rd_T26 l0 x15_1).f2) _ _ ((rd_T26 l1 x15_1).f2) true _ ?side1 ?side2 ?side3 ?side4 A10.out).mono ?_);(case side1=>exact Kd.C_below HR576_2.out (by repeat ((with_reducible first | exact HB.out | refine below_set ?_ GE579.out))));(case side2=>exact HC576_2.out);(case side3=>exact Kd.C_below HR578_2.out (by repeat ((with_reducible first | exact HB.out | refine below_set ?_ GE579.out))));(case side4=>exact HC578_2.out);rintro e w' ⟨rfl,⟨nd,rfl⟩⟩))
           go_roundg k1
           case measure=>have:=HK1.out;omega
           case rel=>exact ⟨(wrap64 (x15_1 + 1)),(by rfl),H',⟨by have:=HK1.out;omega⟩,⟨by repeat ((with_reducible first | exact HB.out | apply pw_below_drewN | refine below_set ?_ GE579.out))⟩⟩
          ·replace c11:=Bool.eq_false_iff.mpr c11
           subst c11
           have H1:(some false) = some r:=by rw [if_neg (show ¬ (false = true) by decide)] at H;exact H
           clear H
           have H:=H1
           clear H1
           obtain rfl:=Option.some.inj H
           have p576:0 ≤ (x15_1:Int):=of_decide_eq_true (by assumption)
           have q576:x15_1 < (l0.length:Int):=of_decide_eq_true (by assumption)
           obtain ⟨ad576,A576_2,c576_2,e576,hx576_0,hx576_1,hx576_2,hl576_2,hi576_2⟩:=at_T26 HR0.out x15_1 p576 q576
           cases e576
           replace hx576_0:=(HB.out.cell (World.block_lt_of_cell? w _ hx576_0)).trans hx576_0
           replace hx576_1:=(HB.out.cell (World.block_lt_of_cell? w _ hx576_1)).trans hx576_1
           replace hx576_2:=(HB.out.cell (World.block_lt_of_cell? w _ hx576_2)).trans hx576_2
           have HR576_2:=Aside0.mk hi576_2
           have HC576_2:=Aside0.mk hl576_2
           clear hi576_2 hl576_2
           replace p576:=eq_true p576
           replace q576:=eq_true q576
           go_wp2_with (first | ((with_reducible refine gate_dst (N:=6) rfl ?_);refine box_event ?hg (N:=6) ?hd (cs:=#[.int .i64 0,.int .i64 0,.slice none 0 0]) (t:=26) ?hr ?_;(case hd=>rfl);(case hg=>rfl);(case hr=>(go_simp;done));intro gb577 hg w18 hbox hb;have n0_:=Aside0.mk (below_step (by with_reducible exact HB.out) hb);have n1_:=Aside0.mk hbox;have n2_:=Aside0.mk ((by rw [hg];exact (below_size (by with_reducible exact HB.out)):w.heap.size ≤ gb577));have n3_:=Aside0.mk ((by rw [hg];exact (below_size (by with_reducible exact HB.out)):w.heap.size ≤ gb577));clear HB;have HB:=n0_;have BK577:=n1_;have GW577:=n2_;have GE577:=n3_;clear n0_ n1_ n2_ n3_;clear hb hbox hg;have hcz19_0:w18.cell? ⟨gb577,0,none⟩ = some (.int .i64 0):=(blk_cell BK577.out 0).trans rfl;have hcz19_1:w18.cell? ⟨gb577,1,none⟩ = some (.int .i64 0):=(blk_cell BK577.out 1).trans rfl;have hcz19_2:w18.cell? ⟨gb577,2,none⟩ = some (.slice none 0 0):=(blk_cell BK577.out 2).trans rfl;have hfz19_0:=blk_frozen BK577.out 0;have hfz19_1:=blk_frozen BK577.out 1;have hfz19_2:=blk_frozen BK577.out 2;have p578:0 ≤ (x15_1:Int):=of_decide_eq_true (by assumption);have q578:x15_1 < (l1.length:Int):=of_decide_eq_true (by assumption);obtain ⟨ad578,A578_2,c578_2,e578,hx578_0,hx578_1,hx578_2,hl578_2,hi578_2⟩:=at_T26 HR1.out x15_1 p578 q578;cases e578;have hn578_0:ad578.block ≠ gb577:=Nat.ne_of_lt (Nat.lt_of_lt_of_le (by have:=World.block_lt_of_cell? _ _ hx578_0;rwa [add_block] at this) GW577.out);have hn578_1:ad578.block ≠ gb577:=Nat.ne_of_lt (Nat.lt_of_lt_of_le (by have:=World.block_lt_of_cell? _ _ hx578_0;rwa [add_block] at this) GW577.out);have hn578_2:ad578.block ≠ gb577:=Nat.ne_of_lt (Nat.lt_of_lt_of_le (by have:=World.block_lt_of_cell? _ _ hx578_0;rwa [add_block] at this) GW577.out);replace hx578_0:=(HB.out.cell (World.block_lt_of_cell? w _ hx578_0)).trans hx578_0;replace hx578_1:=(HB.out.cell (World.block_lt_of_cell? w _ hx578_1)).trans hx578_1;replace hx578_2:=(HB.out.cell (World.block_lt_of_cell? w _ hx578_2)).trans hx578_2;have HR578_2:=Aside0.mk hi578_2;have HC578_2:=Aside0.mk hl578_2;clear hi578_2 hl578_2;replace hx578_0:=(cell_far (p:=⟨gb577,0,none⟩) (by (rw [add_block];exact hn578_0)) (.int .i64 ((rd_T26 l0 x15_1).f0))).trans hx578_0;replace hx578_1:=(cell_far (p:=⟨gb577,0,none⟩) (by (rw [add_block];exact hn578_0)) (.int .i64 ((rd_T26 l0 x15_1).f0))).trans hx578_1;replace hx578_2:=(cell_far (p:=⟨gb577,0,none⟩) (by (rw [add_block];exact hn578_0)) (.int .i64 ((rd_T26 l0 x15_1).f0))).trans hx578_2;replace hx578_0:=(cell_far (p:=⟨gb577,1,none⟩) (by (rw [add_block];exact hn578_1)) (.int .i64 ((rd_T26 l0 x15_1).f1))).trans hx578_0;replace hx578_1:=(cell_far (p:=⟨gb577,1,none⟩) (by (rw [add_block];exact hn578_1)) (.int .i64 ((rd_T26 l0 x15_1).f1))).trans hx578_1;replace hx578_2:=(cell_far (p:=⟨gb577,1,none⟩) (by (rw [add_block];exact hn578_1)) (.int .i64 ((rd_T26 l0 x15_1).f1))).trans hx578_2;replace hx578_0:=(cell_far (p:=⟨gb577,2,none⟩) (by (rw [add_block];exact hn578_2)) (.slice A576_2 ((rd_T26 l0 x15_1).f2).length c576_2)).trans hx578_0;replace hx578_1:=(cell_far (p:=⟨gb577,2,none⟩) (by (rw [add_block];exact hn578_2)) (.slice A576_2 ((rd_T26 l0 x15_1).f2).length c576_2)).trans hx578_1;replace hx578_2:=(cell_far (p:=⟨gb577,2,none⟩) (by (rw [add_block];exact hn578_2)) (.slice A576_2 ((rd_T26 l0 x15_1).f2).length c576_2)).trans hx578_2;clear hn578_0;clear hn578_1;clear hn578_2;replace p578:=eq_true p578;replace q578:=eq_true q578) | ((with_reducible refine gate_dst (N:=7) rfl ?_);refine box_event ?hg (N:=7) ?hd (cs:=#[.int .i64 0,.int .i64 0,.slice none 0 0]) (t:=26) ?hr ?_;(case hd=>rfl);(case hg=>rfl);(case hr=>(go_simp;done));intro gb579 hg w20 hbox hb;have n0_:=Aside0.mk (blk_below (g:=gb577) (o:=.cells #[.int .i64 ((rd_T26 l0 x15_1).f0),.int .i64 ((rd_T26 l0 x15_1).f1),.slice A576_2 ((rd_T26 l0 x15_1).f2).length c576_2] 26 (0,0)) (by (with_reducible repeat (first | refine blk_drewN ?_ _ | refine blk_drew ?_ | refine blk_alloc ?_ _));refine blk_put (cs:=#[.int .i64 ((rd_T26 l0 x15_1).f0),.int .i64 ((rd_T26 l0 x15_1).f1),.slice none 0 0]) ?_ 2 _ rfl;(with_reducible repeat (first | refine blk_drewN ?_ _ | refine blk_drew ?_ | refine blk_alloc ?_ _));refine blk_put (cs:=#[.int .i64 ((rd_T26 l0 x15_1).f0),.int .i64 0,.slice none 0 0]) ?_ 1 _ rfl;(with_reducible repeat (first | refine blk_drewN ?_ _ | refine blk_drew ?_ | refine blk_alloc ?_ _));refine blk_put (cs:=#[.int .i64 0,.int .i64 0,.slice none 0 0]) ?_ 0 _ rfl;exact BK577.out) hb);have n1_:=Aside0.mk (below_step (by repeat ((with_reducible first | exact HB.out | refine below_set ?_ GE577.out))) hb);have n2_:=Aside0.mk hbox;have n3_:=Aside0.mk ((by rw [hg];exact (below_size (by repeat ((with_reducible first | exact HB.out | refine below_set ?_ GE577.out)))):w.heap.size ≤ gb579));have n4_:=Aside0.mk ((by rw [hg];exact (below_size (by repeat ((with_reducible first | exact HB.out | refine below_set ?_ GE577.out)))):w.heap.size ≤ gb579));have n5_:=Aside0.mk ((by rw [hg];exact Nat.ne_of_lt (blk_lt (g:=gb577) (o:=.cells #[.int .i64 ((rd_T26 l0 x15_1).f0),.int .i64 ((rd_T26 l0 x15_1).f1),.slice A576_2 ((rd_T26 l0 x15_1).f2).length c576_2] 26 (0,0)) (by (with_reducible repeat (first | refine blk_drewN ?_ _ | refine blk_drew ?_ | refine blk_alloc ?_ _));refine blk_put (cs:=#[.int .i64 ((rd_T26 l0 x15_1).f0),.int .i64 ((rd_T26 l0 x15_1).f1),.slice none 0 0]) ?_ 2 _ rfl;(with_reducible repeat (first | refine blk_drewN ?_ _ | refine blk_drew ?_ | refine blk_alloc ?_ _));refine blk_put (cs:=#[.int .i64 ((rd_T26 l0 x15_1).f0),.int .i64 0,.slice none 0 0]) ?_ 1 _ rfl;(with_reducible repeat (first | refine blk_drewN ?_ _ | refine blk_drew ?_ | refine blk_alloc ?_ _));refine blk_put (cs:=#[.int .i64 0,.int .i64 0,.slice none 0 0]) ?_ 0 _ rfl;exact BK577.out)):gb577 ≠ gb579));have n6_:=Aside0.mk ((by rw [hg];exact Nat.ne_of_gt (blk_lt (g:=gb577) (o:=.cells #[.int .i64 ((rd_T26 l0 x15_1).f0),.int .i64 ((rd_T26 l0 x15_1).f1),.slice A576_2 ((rd_T26 l0 x15_1).f2).length c576_2] 26 (0,0)) (by (with_reducible repeat (first | refine blk_drewN ?_ _ | refine blk_drew ?_ | refine blk_alloc ?_ _));refine blk_put (cs:=#[.int .i64 ((rd_T26 l0 x15_1).f0),.int .i64 ((rd_T26 l0 x15_1).f1),.slice none 0 0]) ?_ 2 _ rfl;(with_reducible repeat (first | refine blk_drewN ?_ _ | refine blk_drew ?_ | refine blk_alloc ?_ _));refine blk_put (cs:=#[.int .i64 ((rd_T26 l0 x15_1).f0),.int .i64 0,.slice none 0 0]) ?_ 1 _ rfl;(with_reducible repeat (first | refine blk_drewN ?_ _ | refine blk_drew ?_ | refine blk_alloc ?_ _));refine blk_put (cs:=#[.int .i64 0,.int .i64 0,.slice none 0 0]) ?_ 0 _ rfl;exact BK577.out)):gb579 ≠ gb577));clear BK577;clear HB;have BK577:=n0_;have HB:=n1_;have BK579:=n2_;have GW579:=n3_;have GE579:=n4_;have NB577_579:=n5_;have NB579_577:=n6_;clear n0_ n1_ n2_ n3_ n4_ n5_ n6_;clear hb hbox hg;have hnb21:=NB579_577.out;have hnc21:=NB577_579.out;have hcz22_0:w20.cell? ⟨gb579,0,none⟩ = some (.int .i64 0):=(blk_cell BK579.out 0).trans rfl;have hcz22_1:w20.cell? ⟨gb579,1,none⟩ = some (.int .i64 0):=(blk_cell BK579.out 1).trans rfl;have hcz22_2:w20.cell? ⟨gb579,2,none⟩ = some (.slice none 0 0):=(blk_cell BK579.out 2).trans rfl;have hfz22_0:=blk_frozen BK579.out 0;have hfz22_1:=blk_frozen BK579.out 1;have hfz22_2:=blk_frozen BK579.out 2;have hcz23_0:w20.cell? ⟨gb577,0,none⟩ = some (.int .i64 ((rd_T26 l0 x15_1).f0)):=(blk_cell BK577.out 0).trans rfl;have hcz23_1:w20.cell? ⟨gb577,1,none⟩ = some (.int .i64 ((rd_T26 l0 x15_1).f1)):=(blk_cell BK577.out 1).trans rfl;have hcz23_2:w20.cell? ⟨gb577,2,none⟩ = some (.slice A576_2 ((rd_T26 l0 x15_1).f2).length c576_2):=(blk_cell BK577.out 2).trans rfl;have hfz23_0:=blk_frozen BK577.out 0;have hfz23_1:=blk_frozen BK577.out 1;have hfz23_2:=blk_frozen BK577.out 2) | (go_at_call 105;(with_reducible refine (attr_Same.calls k1 _ _ ((rd_T26 l0 x15_1).f2) _ _ ((rd_T26 l1 x15_1).f2) false _ ?side1 ?side2 ?side3 ?side4 A10.out).mono ?_);(case side1=>exact Kd.C_below HR576_2.out (by repeat ((with_reducible first | exact HB.out | refine below_set ?_ GE579.out))));(case side2=>exact HC576_2.out);(case side3=>exact Kd.C_below HR578_2.out (by repeat ((with_reducible first | exact HB.out | refine below_set ?_ GE579.out))));(case side4=>exact HC578_2.out);rintro e w' ⟨rfl,⟨nd,rfl⟩⟩))
           go_ret
           exact ⟨by rfl,by repeat ((with_reducible first | exact HB.out | apply pw_below_drewN | refine below_set ?_ GE579.out))⟩
         ·rw [if_neg c9] at H
          have c9b0:(((rd_T26 l0 x15_1).f1) == ((rd_T26 l1 x15_1).f1)) = false:=beq_eq_false_iff_ne.mpr c9
          have c9b1:(((rd_T26 l0 x15_1).f1) != ((rd_T26 l1 x15_1).f1)) = true:=bne_iff_ne.mpr c9
          obtain rfl:=Option.some.inj H
          have p576:0 ≤ (x15_1:Int):=of_decide_eq_true (by assumption)
          have q576:x15_1 < (l0.length:Int):=of_decide_eq_true (by assumption)
          obtain ⟨ad576,A576_2,c576_2,e576,hx576_0,hx576_1,hx576_2,hl576_2,hi576_2⟩:=at_T26 HR0.out x15_1 p576 q576
          cases e576
          replace hx576_0:=(HB.out.cell (World.block_lt_of_cell? w _ hx576_0)).trans hx576_0
          replace hx576_1:=(HB.out.cell (World.block_lt_of_cell? w _ hx576_1)).trans hx576_1
          replace hx576_2:=(HB.out.cell (World.block_lt_of_cell? w _ hx576_2)).trans hx576_2
          have HR576_2:=Aside0.mk hi576_2
          have HC576_2:=Aside0.mk hl576_2
          clear hi576_2 hl576_2
          replace p576:=eq_true p576
          replace q576:=eq_true q576
          go_wp2_with (first | ((with_reducible refine gate_dst (N:=6) rfl ?_);refine box_event ?hg (N:=6) ?hd (cs:=#[.int .i64 0,.int .i64 0,.slice none 0 0]) (t:=26) ?hr ?_;(case hd=>rfl);(case hg=>rfl);(case hr=>(go_simp;done));intro gb577 hg w24 hbox hb;have n0_:=Aside0.mk (below_step (by with_reducible exact HB.out) hb);have n1_:=Aside0.mk hbox;have n2_:=Aside0.mk ((by rw [hg];exact (below_size (by with_reducible exact HB.out)):w.heap.size ≤ gb577));have n3_:=Aside0.mk ((by rw [hg];exact (below_size (by with_reducible exact HB.out)):w.heap.size ≤ gb577));clear HB;have HB:=n0_;have BK577:=n1_;have GW577:=n2_;have GE577:=n3_;clear n0_ n1_ n2_ n3_;clear hb hbox hg;have hcz25_0:w24.cell? ⟨gb577,0,none⟩ = some (.int .i64 0):=(blk_cell BK577.out 0).trans rfl;have hcz25_1:w24.cell? ⟨gb577,1,none⟩ = some (.int .i64 0):=(blk_cell BK577.out 1).trans rfl;have hcz25_2:w24.cell? ⟨gb577,2,none⟩ = some (.slice none 0 0):=(blk_cell BK577.out 2).trans rfl;have hfz25_0:=blk_frozen BK577.out 0;have hfz25_1:=blk_frozen BK577.out 1;have hfz25_2:=blk_frozen BK577.out 2;have p578:0 ≤ (x15_1:Int):=of_decide_eq_true (by assumption);have q578:x15_1 < (l1.length:Int):=of_decide_eq_true (by assumption);obtain ⟨ad578,A578_2,c578_2,e578,hx578_0,hx578_1,hx578_2,hl578_2,hi578_2⟩:=at_T26 HR1.out x15_1 p578 q578;cases e578;have hn578_0:ad578.block ≠ gb577:=Nat.ne_of_lt (Nat.lt_of_lt_of_le (by have:=World.block_lt_of_cell? _ _ hx578_0;rwa [add_block] at this) GW577.out);have hn578_1:ad578.block ≠ gb577:=Nat.ne_of_lt (Nat.lt_of_lt_of_le (by have:=World.block_lt_of_cell? _ _ hx578_0;rwa [add_block] at this) GW577.out);have hn578_2:ad578.block ≠ gb577:=Nat.ne_of_lt (Nat.lt_of_lt_of_le (by have:=World.block_lt_of_cell? _ _ hx578_0;rwa [add_block] at this) GW577.out);replace hx578_0:=(HB.out.cell (World.block_lt_of_cell? w _ hx578_0)).trans hx578_0;replace hx578_1:=(HB.out.cell (World.block_lt_of_cell? w _ hx578_1)).trans hx578_1;replace hx578_2:=(HB.out.cell (World.block_lt_of_cell? w _ hx578_2)).trans hx578_2;have HR578_2:=Aside0.mk hi578_2;have HC578_2:=Aside0.mk hl578_2;clear hi578_2 hl578_2;replace hx578_0:=(cell_far (p:=⟨gb577,0,none⟩) (by (rw [add_block];exact hn578_0)) (.int .i64 ((rd_T26 l0 x15_1).f0))).trans hx578_0;replace hx578_1:=(cell_far (p:=⟨gb577,0,none⟩) (by (rw [add_block];exact hn578_0)) (.int .i64 ((rd_T26 l0 x15_1).f0))).trans hx578_1;replace hx578_2:=(cell_far (p:=⟨gb577,0,none⟩) (by (rw [add_block];exact hn578_0)) (.int .i64 ((rd_T26 l0 x15_1).f0))).trans hx578_2;replace hx578_0:=(cell_far (p:=⟨gb577,1,none⟩) (by (rw [add_block];exact hn578_1)) (.int .i64 ((rd_T26 l0 x15_1).f1))).trans hx578_0;replace hx578_1:=(cell_far (p:=⟨gb577,1,none⟩) (by (rw [add_block];exact hn578_1)) (.int .i64 ((rd_T26 l0 x15_1).f1))).trans hx578_1;replace hx578_2:=(cell_far (p:=⟨gb577,1,none⟩) (by (rw [add_block];exact hn578_1)) (.int .i64 ((rd_T26 l0 x15_1).f1))).trans hx578_2;replace hx578_0:=(cell_far (p:=⟨gb577,2,none⟩) (by (rw [add_block];exact hn578_2)) (.slice A576_2 ((rd_T26 l0 x15_1).f2).length c576_2)).trans hx578_0;replace hx578_1:=(cell_far (p:=⟨gb577,2,none⟩) (by (rw [add_block];exact hn578_2)) (.slice A576_2 ((rd_T26 l0 x15_1).f2).length c576_2)).trans hx578_1;replace hx578_2:=(cell_far (p:=⟨gb577,2,none⟩) (by (rw [add_block];exact hn578_2)) (.slice A576_2 ((rd_T26 l0 x15_1).f2).length c576_2)).trans hx578_2;clear hn578_0;clear hn578_1;clear hn578_2;replace p578:=eq_true p578;replace q578:=eq_true q578) | ((with_reducible refine gate_dst (N:=7) rfl ?_);refine box_event ?hg (N:=7) ?hd (cs:=#[.int .i64 0,.int .i64 0,.slice none 0 0]) (t:=26) ?hr ?_;(case hd=>rfl);(case hg=>rfl);(case hr=>(go_simp;done));intro gb579 hg w26 hbox hb;have n0_:=Aside0.mk (blk_below (g:=gb577) (o:=.cells #[.int .i64 ((rd_T26 l0 x15_1).f0),.int .i64 ((rd_T26 l0 x15_1).f1),.slice A576_2 ((rd_T26 l0 x15_1).f2).length c576_2] 26 (0,0)) (by (with_reducible repeat (first | refine blk_drewN ?_ _ | refine blk_drew ?_ | refine blk_alloc ?_ _));refine blk_put (cs:=#[.int .i64 ((rd_T26 l0 x15_1).f0),.int .i64 ((rd_T26 l0 x15_1).f1),.slice none 0 0]) ?_ 2 _ rfl;(with_reducible repeat (first | refine blk_drewN ?_ _ | refine blk_drew ?_ | refine blk_alloc ?_ _));refine blk_put (cs:=#[.int .i64 ((rd_T26 l0 x15_1).f0),.int .i64 0,.slice none 0 0]) ?_ 1 _ rfl;(with_reducible repeat (first | refine blk_drewN ?_ _ | refine blk_drew ?_ | refine blk_alloc ?_ _));refine blk_put (cs:=#[.int .i64 0,.int .i64 0,.slice none 0 0]) ?_ 0 _ rfl;exact BK577.out) hb);have n1_:=Aside0.mk (below_step (by repeat ((with_reducible first | exact HB.out | refine below_set ?_ GE577.out))) hb);have n2_:=Aside0.mk hbox;have n3_:=Aside0.mk ((by rw [hg];exact (below_size (by repeat ((with_reducible first | exact HB.out | refine below_set ?_ GE577.out)))):w.heap.size ≤ gb579));have n4_:=Aside0.mk ((by rw [hg];exact (below_size (by repeat ((with_reducible first | exact HB.out | refine below_set ?_ GE577.out)))):w.heap.size ≤ gb579));have n5_:=Aside0.mk ((by rw [hg];exact Nat.ne_of_lt (blk_lt (g:=gb577) (o:=.cells #[.int .i64 ((rd_T26 l0 x15_1).f0),.int .i64 ((rd_T26 l0 x15_1).f1),.slice A576_2 ((rd_T26 l0 x15_1).f2).length c576_2] 26 (0,0)) (by (with_reducible repeat (first | refine blk_drewN ?_ _ | refine blk_drew ?_ | refine blk_alloc ?_ _));refine blk_put (cs:=#[.int .i64 ((rd_T26 l0 x15_1).f0),.int .i64 ((rd_T26 l0 x15_1).f1),.slice none 0 0]) ?_ 2 _ rfl;(with_reducible repeat (first | refine blk_drewN ?_ _ | refine blk_drew ?_ | refine blk_alloc ?_ _));refine blk_put (cs:=#[.int .i64 ((rd_T26 l0 x15_1).f0),.int .i64 0,.slice none 0 0]) ?_ 1 _ rfl;(with_reducible repeat (first | refine blk_drewN ?_ _ | refine blk_drew ?_ | refine blk_alloc ?_ _));refine blk_put (cs:=#[.int .i64 0,.int .i64 0,.slice none 0 0]) ?_ 0 _ rfl;exact BK577.out)):gb577 ≠ gb579));have n6_:=Aside0.mk ((by rw [hg];exact Nat.ne_of_gt (blk_lt (g:=gb577) (o:=.cells #[.int .i64 ((rd_T26 l0 x15_1).f0),.int .i64 ((rd_T26 l0 x15_1).f1),.slice A576_2 ((rd_T26 l0 x15_1).f2).length c576_2] 26 (0,0)) (by (with_reducible repeat (first | refine blk_drewN ?_ _ | refine blk_drew ?_ | refine blk_alloc ?_ _));refine blk_put (cs:=#[.int .i64 ((rd_T26 l0 x15_1).f0),.int .i64 ((rd_T26 l0 x15_1).f1),.slice none 0 0]) ?_ 2 _ rfl;(with_reducible repeat (first | refine blk_drewN ?_ _ | refine blk_drew ?_ | refine blk_alloc ?_ _));refine blk_put (cs:=#[.int .i64 ((rd_T26 l0 x15_1).f0),.int .i64 0,.slice none 0 0]) ?_ 1 _ rfl;(with_reducible repeat (first | refine blk_drewN ?_ _ | refine blk_drew ?_ | refine blk_alloc ?_ _));refine blk_put (cs:=#[.int .i64 0,.int .i64 0,.slice none 0 0]) ?_ 0 _ rfl;exact BK577.out)):gb579 ≠ gb577));clear BK577;clear HB;have BK577:=n0_;have HB:=n1_;have BK579:=n2_;have GW579:=n3_;have GE579:=n4_;have NB577_579:=n5_;have NB579_577:=n6_;clear n0_ n1_ n2_ n3_ n4_ n5_ n6_;clear hb hbox hg;have hnb27:=NB579_577.out;have hnc27:=NB577_579.out;have hcz28_0:w26.cell? ⟨gb579,0,none⟩ = some (.int .i64 0):=(blk_cell BK579.out 0).trans rfl;have hcz28_1:w26.cell? ⟨gb579,1,none⟩ = some (.int .i64 0):=(blk_cell BK579.out 1).trans rfl;have hcz28_2:w26.cell? ⟨gb579,2,none⟩ = some (.slice none 0 0):=(blk_cell BK579.out 2).trans rfl;have hfz28_0:=blk_frozen BK579.out 0;have hfz28_1:=blk_frozen BK579.out 1;have hfz28_2:=blk_frozen BK579.out 2;have hcz29_0:w26.cell? ⟨gb577,0,none⟩ = some (.int .i64 ((rd_T26 l0 x15_1).f0)):=(blk_cell BK577.out 0).trans rfl;have hcz29_1:w26.cell? ⟨gb577,1,none⟩ = some (.int .i64 ((rd_T26 l0 x15_1).f1)):=(blk_cell BK577.out 1).trans rfl;have hcz29_2:w26.cell? ⟨gb577,2,none⟩ = some (.slice A576_2 ((rd_T26 l0 x15_1).f2).length c576_2):=(blk_cell BK577.out 2).trans rfl;have hfz29_0:=blk_frozen BK577.out 0;have hfz29_1:=blk_frozen BK577.out 1;have hfz29_2:=blk_frozen BK577.out 2))
          go_ret
          exact ⟨by rfl,by repeat ((with_reducible first | exact HB.out | refine below_set ?_ GE579.out))⟩
        ·rw [if_neg c8] at H
         have c8b0:(((rd_T26 l0 x15_1).f0) == ((rd_T26 l1 x15_1).f0)) = false:=beq_eq_false_iff_ne.mpr c8
         have c8b1:(((rd_T26 l0 x15_1).f0) != ((rd_T26 l1 x15_1).f0)) = true:=bne_iff_ne.mpr c8
         obtain rfl:=Option.some.inj H
         have p576:0 ≤ (x15_1:Int):=of_decide_eq_true (by assumption)
         have q576:x15_1 < (l0.length:Int):=of_decide_eq_true (by assumption)
         obtain ⟨ad576,A576_2,c576_2,e576,hx576_0,hx576_1,hx576_2,hl576_2,hi576_2⟩:=at_T26 HR0.out x15_1 p576 q576
         cases e576
         replace hx576_0:=(HB.out.cell (World.block_lt_of_cell? w _ hx576_0)).trans hx576_0
         replace hx576_1:=(HB.out.cell (World.block_lt_of_cell? w _ hx576_1)).trans hx576_1
         replace hx576_2:=(HB.out.cell (World.block_lt_of_cell? w _ hx576_2)).trans hx576_2
         have HR576_2:=Aside0.mk hi576_2
         have HC576_2:=Aside0.mk hl576_2
         clear hi576_2 hl576_2
         replace p576:=eq_true p576
         replace q576:=eq_true q576
         go_wp2_with (first | ((with_reducible refine gate_dst (N:=6) rfl ?_);refine box_event ?hg (N:=6) ?hd (cs:=#[.int .i64 0,.int .i64 0,.slice none 0 0]) (t:=26) ?hr ?_;(case hd=>rfl);(case hg=>rfl);(case hr=>(go_simp;done));intro gb577 hg w30 hbox hb;have n0_:=Aside0.mk (below_step (by with_reducible exact HB.out) hb);have n1_:=Aside0.mk hbox;have n2_:=Aside0.mk ((by rw [hg];exact (below_size (by with_reducible exact HB.out)):w.heap.size ≤ gb577));have n3_:=Aside0.mk ((by rw [hg];exact (below_size (by with_reducible exact HB.out)):w.heap.size ≤ gb577));clear HB;have HB:=n0_;have BK577:=n1_;have GW577:=n2_;have GE577:=n3_;clear n0_ n1_ n2_ n3_;clear hb hbox hg;have hcz31_0:w30.cell? ⟨gb577,0,none⟩ = some (.int .i64 0):=(blk_cell BK577.out 0).trans rfl;have hcz31_1:w30.cell? ⟨gb577,1,none⟩ = some (.int .i64 0):=(blk_cell BK577.out 1).trans rfl;have hcz31_2:w30.cell? ⟨gb577,2,none⟩ = some (.slice none 0 0):=(blk_cell BK577.out 2).trans rfl;have hfz31_0:=blk_frozen BK577.out 0;have hfz31_1:=blk_frozen BK577.out 1;have hfz31_2:=blk_frozen BK577.out 2;have p578:0 ≤ (x15_1:Int):=of_decide_eq_true (by assumption);have q578:x15_1 < (l1.length:Int):=of_decide_eq_true (by assumption);obtain ⟨ad578,A578_2,c578_2,e578,hx578_0,hx578_1,hx578_2,hl578_2,hi578_2⟩:=at_T26 HR1.out x15_1 p578 q578;cases e578;have hn578_0:ad578.block ≠ gb577:=Nat.ne_of_lt (Nat.lt_of_lt_of_le (by have:=World.block_lt_of_cell? _ _ hx578_0;rwa [add_block] at this) GW577.out);have hn578_1:ad578.block ≠ gb577:=Nat.ne_of_lt (Nat.lt_of_lt_of_le (by have:=World.block_lt_of_cell? _ _ hx578_0;rwa [add_block] at this) GW577.out);have hn578_2:ad578.block ≠ gb577:=Nat.ne_of_lt (Nat.lt_of_lt_of_le (by have:=World.block_lt_of_cell? _ _ hx578_0;rwa [add_block] at this) GW577.out);replace hx578_0:=(HB.out.cell (World.block_lt_of_cell? w _ hx578_0)).trans hx578_0;replace hx578_1:=(HB.out.cell (World.block_lt_of_cell? w _ hx578_1)).trans hx578_1;replace hx578_2:=(HB.out.cell (World.block_lt_of_cell? w _ hx578_2)).trans hx578_2;have HR578_2:=Aside0.mk hi578_2;have HC578_2:=Aside0.mk hl578_2;clear hi578_2 hl578_2;replace hx578_0:=(cell_far (p:=⟨gb577,0,none⟩) (by (rw [add_block];exact hn578_0)) (.int .i64 ((rd_T26 l0 x15_1).f0))).trans hx578_0;replace hx578_1:=(cell_far (p:=⟨gb577,0,none⟩) (by (rw [add_block];exact hn578_0)) (.int .i64 ((rd_T26 l0 x15_1).f0))).trans hx578_1;replace hx578_2:=(cell_far (p:=⟨gb577,0,none⟩) (by (rw [add_block];exact hn578_0)) (.int .i64 ((rd_T26 l0 x15_1).f0))).trans hx578_2;replace hx578_0:=(cell_far (p:=⟨gb577,1,none⟩) (by (rw [add_block];exact hn578_1)) (.int .i64 ((rd_T26 l0 x15_1).f1))).trans hx578_0;replace hx578_1:=(cell_far (p:=⟨gb577,1,none⟩) (by (rw [add_block];exact hn578_1)) (.int .i64 ((rd_T26 l0 x15_1).f1))).trans hx578_1;replace hx578_2:=(cell_far (p:=⟨gb577,1,none⟩) (by (rw [add_block];exact hn578_1)) (.int .i64 ((rd_T26 l0 x15_1).f1))).trans hx578_2;replace hx578_0:=(cell_far (p:=⟨gb577,2,none⟩) (by (rw [add_block];exact hn578_2)) (.slice A576_2 ((rd_T26 l0 x15_1).f2).length c576_2)).trans hx578_0;replace hx578_1:=(cell_far (p:=⟨gb577,2,none⟩) (by (rw [add_block];exact hn578_2)) (.slice A576_2 ((rd_T26 l0 x15_1).f2).length c576_2)).trans hx578_1;replace hx578_2:=(cell_far (p:=⟨gb577,2,none⟩) (by (rw [add_block];exact hn578_2)) (.slice A576_2 ((rd_T26 l0 x15_1).f2).length c576_2)).trans hx578_2;clear hn578_0;clear hn578_1;clear hn578_2;replace p578:=eq_true p578;replace q578:=eq_true q578) | ((with_reducible refine gate_dst (N:=7) rfl ?_);refine box_event ?hg (N:=7) ?hd (cs:=#[.int .i64 0,.int .i64 0,.slice none 0 0]) (t:=26) ?hr ?_;(case hd=>rfl);(case hg=>rfl);(case hr=>(go_simp;done));intro gb579 hg w32 hbox hb;have n0_:=Aside0.mk (blk_below (g:=gb577) (o:=.cells #[.int .i64 ((rd_T26 l0 x15_1).f0),.int .i64 ((rd_T26 l0 x15_1).f1),.slice A576_2 ((rd_T26 l0 x15_1).f2).length c576_2] 26 (0,0)) (by (with_reducible repeat (first | refine blk_drewN ?_ _ | refine blk_drew ?_ | refine blk_alloc ?_ _));refine blk_put (cs:=#[.int .i64 ((rd_T26 l0 x15_1).f0),.int .i64 ((rd_T26 l0 x15_1).f1),.slice none 0 0]) ?_ 2 _ rfl;(with_reducible repeat (first | refine blk_drewN ?_ _ | refine blk_drew ?_ | refine blk_alloc ?_ _));refine blk_put (cs:=#[.int .i64 ((rd_T26 l0 x15_1).f0),.int .i64 0,.slice none 0 0]) ?_ 1 _ rfl;(with_reducible repeat (first | refine blk_drewN ?_ _ | refine blk_drew ?_ | refine blk_alloc ?_ _));refine blk_put (cs:=#[.int .i64 0,.int .i64 0,.slice none 0 0]) ?_ 0 _ rfl;exact BK577.out) hb);have n1_:=Aside0.mk (below_step (by repeat ((with_reducible first | exact HB.out | refine below_set ?_ GE577.out))) hb);have n2_:=Aside0.mk hbox;have n3_:=Aside0.mk ((by rw [hg];exact (below_size (by repeat ((with_reducible first | exact HB.out | refine below_set ?_ GE577.out)))):w.heap.size ≤ gb579));have n4_:=Aside0.mk ((by rw [hg];exact (below_size (by repeat ((with_reducible first | exact HB.out | refine below_set ?_ GE577.out)))):w.heap.size ≤ gb579));have n5_:=Aside0.mk ((by rw [hg];exact Nat.ne_of_lt (blk_lt (g:=gb577) (o:=.cells #[.int .i64 ((rd_T26 l0 x15_1).f0),.int .i64 ((rd_T26 l0 x15_1).f1),.slice A576_2 ((rd_T26 l0 x15_1).f2).length c576_2] 26 (0,0)) (by (with_reducible repeat (first | refine blk_drewN ?_ _ | refine blk_drew ?_ | refine blk_alloc ?_ _));refine blk_put (cs:=#[.int .i64 ((rd_T26 l0 x15_1).f0),.int .i64 ((rd_T26 l0 x15_1).f1),.slice none 0 0]) ?_ 2 _ rfl;(with_reducible repeat (first | refine blk_drewN ?_ _ | refine blk_drew ?_ | refine blk_alloc ?_ _));refine blk_put (cs:=#[.int .i64 ((rd_T26 l0 x15_1).f0),.int .i64 0,.slice none 0 0]) ?_ 1 _ rfl;(with_reducible repeat (first | refine blk_drewN ?_ _ | refine blk_drew ?_ | refine blk_alloc ?_ _));refine blk_put (cs:=#[.int .i64 0,.int .i64 0,.slice none 0 0]) ?_ 0 _ rfl;exact BK577.out)):gb577 ≠ gb579));have n6_:=Aside0.mk ((by rw [hg];exact Nat.ne_of_gt (blk_lt (g:=gb577) (o:=.cells #[.int .i64 ((rd_T26 l0 x15_1).f0),.int .i64 ((rd_T26 l0 x15_1).f1),.slice A576_2 ((rd_T26 l0 x15_1).f2).length c576_2] 26 (0,0)) (by (with_reducible repeat (first | refine blk_drewN ?_ _ | refine blk_drew ?_ | refine blk_alloc ?_ _));refine blk_put (cs:=#[.int .i64 ((rd_T26 l0 x15_1).f0),.int .i64 ((rd_T26 l0 x15_1).f1),.slice none 0 0]) ?_ 2 _ rfl;(with_reducible repeat (first | refine blk_drewN ?_ _ | refine blk_drew ?_ | refine blk_alloc ?_ _));refine blk_put (cs:=#[.int .i64 ((rd_T26 l0 x15_1).f0),.int .i64 0,.slice none 0 0]) ?_ 1 _ rfl;(with_reducible repeat (first | refine blk_drewN ?_ _ | refine blk_drew ?_ | refine blk_alloc ?_ _));refine blk_put (cs:=#[.int .i64 0,.int .i64 0,.slice none 0 0]) ?_ 0 _ rfl;exact BK577.out)):gb579 ≠ gb577));clear BK577;clear HB;have BK577:=n0_;have HB:=n1_;have BK579:=n2_;have GW579:=n3_;have GE579:=n4_;have NB577_579:=n5_;have NB579_577:=n6_;clear n0_ n1_ n2_ n3_ n4_ n5_ n6_;clear hb hbox hg;have hnb33:=NB579_577.out;have hnc33:=NB577_579.out;have hcz34_0:w32.cell? ⟨gb579,0,none⟩ = some (.int .i64 0):=(blk_cell BK579.out 0).trans rfl;have hcz34_1:w32.cell? ⟨gb579,1,none⟩ = some (.int .i64 0):=(blk_cell BK579.out 1).trans rfl;have hcz34_2:w32.cell? ⟨gb579,2,none⟩ = some (.slice none 0 0):=(blk_cell BK579.out 2).trans rfl;have hfz34_0:=blk_frozen BK579.out 0;have hfz34_1:=blk_frozen BK579.out 1;have hfz34_2:=blk_frozen BK579.out 2;have hcz35_0:w32.cell? ⟨gb577,0,none⟩ = some (.int .i64 ((rd_T26 l0 x15_1).f0)):=(blk_cell BK577.out 0).trans rfl;have hcz35_1:w32.cell? ⟨gb577,1,none⟩ = some (.int .i64 ((rd_T26 l0 x15_1).f1)):=(blk_cell BK577.out 1).trans rfl;have hcz35_2:w32.cell? ⟨gb577,2,none⟩ = some (.slice A576_2 ((rd_T26 l0 x15_1).f2).length c576_2):=(blk_cell BK577.out 2).trans rfl;have hfz35_0:=blk_frozen BK577.out 0;have hfz35_1:=blk_frozen BK577.out 1;have hfz35_2:=blk_frozen BK577.out 2))
         go_ret
         exact ⟨by rfl,by repeat ((with_reducible first | exact HB.out | refine below_set ?_ GE579.out))⟩
       ·rw [if_neg c7] at H
        exact absurd H (by simp)
      ·rw [if_neg c6] at H
       exact absurd H (by simp)
     ·rw [if_neg c5] at H
      exact absurd H (by simp)
    ·rw [if_neg c4] at H
     have c4b0:decide (x15_1 < (l0.length:Int)) = false:=decide_eq_false c4
     clear c4
     obtain rfl:=Option.some.inj H
     go_wp2
     go_ret
     exact ⟨by rfl,HB.out⟩
 ·rw [if_neg c3] at H
  have c3b0:((l0.length:Int) == (l1.length:Int)) = false:=beq_eq_false_iff_ne.mpr c3
  have c3b1:((l0.length:Int) != (l1.length:Int)) = true:=bne_iff_ne.mpr c3
  have c3b2:(l0.length == l1.length) = false:=by (simp at c3 ⊢;omega)
  obtain rfl:=Option.some.inj H
  go_enter Try.func135,Try.ntmps135
  go_wp2
  go_ret
  exact ⟨by rfl,HB.out⟩
def chanceryref1_PartError.l0:Nat → List (S26) → Int → Int → Option (Int)
 | 0,_,_,_=>none
 | k + 1,x0,x6,x7=>if x7 < x6 then (if 0 ≤ x7 then (if x7 < (x0.length:Int) then ((chanceryref1_ElemError.f k ((rd_T26 x0 x7).f0) ((rd_T26 x0 x7).f1) ((rd_T26 x0 x7).f2)).bind fun t592=>(if t592 = 0 then (chanceryref1_PartError.l0 k x0 x6 (wrap64 (x7 + 1))) else (some t592))) else (none)) else (none)) else (some 0)
def chanceryref1_PartError.f (k:Nat) (l0:List (S26)):Option (Int):=chanceryref1_PartError.l0 k l0 (l0.length:Int) 0
set_option maxHeartbeats 8000000 in
set_option maxRecDepth 100000 in
theorem chanceryref1_PartError.calls (k:Nat) (A0:Option Addr) (c0:Nat) (l0:List (S26)) (r:Int) (w:World) (hr0:Kd.C k26 w A0 l0.length l0) (hc0:l0.length ≤ c0) (h:chanceryref1_PartError.f k l0 = some r) :
 Calls Try.prog 26 #[.slice A0 l0.length c0] w fun e w'=>e = .returned (.int .i64 r) ∧ Below w.heap.size w w':=by
 have hu26:=Try.underlying26
 have HR0:=Aside0.mk hr0
 have HC0:=Aside0.mk hc0
 clear hr0 hc0
 have HB:=Aside0.mk (Below.refl w.heap.size w)
 have H:(chanceryref1_PartError.l0 k l0 (l0.length:Int) 0) = some r:=h
 clear h
 have H':=Aside0.mk H
 clear H
 go_enter Try.func26,Try.ntmps26
 go_wp2
 go_loopg [7] k (fun kq v7 w'=>∃ (x7_1:Int),v7 = .int .i64 x7_1 ∧ Aside0 (chanceryref1_PartError.l0 kq l0 (l0.length:Int) x7_1 = some r) ∧ Aside0 (kq ≤ k) ∧ Aside0 (Below w.heap.size w w'))
 case atStart=>exact ⟨(0),(by rfl),H',⟨Nat.le_refl _⟩,⟨HB.out⟩⟩
 case round =>
  clear H'
  obtain ⟨x7_1,rfl,HA,HK1,HB⟩:=hrel
  cases gk with
  | zero=>exact absurd HA.out (by simp [chanceryref1_PartError.l0])
  | succ k1 =>
   have H:=HA.out
   clear HA
   simp only [chanceryref1_PartError.l0] at H
   by_cases c2:x7_1 < (l0.length:Int)
   ·rw [if_pos c2] at H
    have c2b0:decide (x7_1 < (l0.length:Int)) = true:=decide_eq_true c2
    clear c2
    by_cases c3:0 ≤ x7_1
    ·rw [if_pos c3] at H
     have c3b0:decide (0 ≤ x7_1) = true:=decide_eq_true c3
     clear c3
     by_cases c4:x7_1 < (l0.length:Int)
     ·rw [if_pos c4] at H
      have c4b0:decide (x7_1 < (l0.length:Int)) = true:=decide_eq_true c4
      clear c4
      replace H:=Option.bind_eq_some_iff.mp H
      obtain ⟨t592,A50,H⟩:=H
      replace H:(if t592 = 0 then (chanceryref1_PartError.l0 k1 l0 (l0.length:Int) (wrap64 (x7_1 + 1))) else (some t592)) = some r:=H
      have A5:=Aside0.mk A50
      clear A50
      by_cases c6:t592 = 0
      ·rw [if_pos c6] at H
       have c6b0:(t592 == 0) = true:=beq_iff_eq.mpr c6
       have c6b1:(t592 != 0) = false:=bne_eq_false_iff_eq.mpr c6
       clear c6
       have H':=Aside0.mk H
       clear H
       have p591:0 ≤ (x7_1:Int):=of_decide_eq_true (by assumption)
       have q591:x7_1 < (l0.length:Int):=of_decide_eq_true (by assumption)
       obtain ⟨ad591,A591_2,c591_2,e591,hx591_0,hx591_1,hx591_2,hl591_2,hi591_2⟩:=at_T26 HR0.out x7_1 p591 q591
       cases e591
       replace hx591_0:=(HB.out.cell (World.block_lt_of_cell? w _ hx591_0)).trans hx591_0
       replace hx591_1:=(HB.out.cell (World.block_lt_of_cell? w _ hx591_1)).trans hx591_1
       replace hx591_2:=(HB.out.cell (World.block_lt_of_cell? w _ hx591_2)).trans hx591_2
       have HR591_2:=Aside0.mk hi591_2
       have HC591_2:=Aside0.mk hl591_2
       clear hi591_2 hl591_2
       replace p591:=eq_true p591
       replace q591:=eq_true q591
       go_wp2_with (((with_reducible refine gate_callee (f:=50) rfl ?_);refine goesL_ (some 14) rfl rfl Try.func50 (by kernel_rfl) rfl #[.agg #[.int .i64 ((rd_T26 l0 x7_1).f0),.int .i64 ((rd_T26 l0 x7_1).f1),.slice A591_2 ((rd_T26 l0 x7_1).f2).length c591_2]] rfl (by (try simp only [List.map_toArray,List.map_cons,List.map_nil]);rfl) ?_;(with_reducible refine (chanceryref1_ElemError.calls k1 ((rd_T26 l0 x7_1).f0) ((rd_T26 l0 x7_1).f1) _ _ ((rd_T26 l0 x7_1).f2) t592 _ ?side1 ?side2 A5.out).mono ?_);(case side1=>repeat (exact (Kd.C_below HR591_2.out HB.out)));(case side2=>exact HC591_2.out);rintro e w7 ⟨rfl,hb⟩;refine ⟨_,rfl,?_⟩;replace HB:=Aside0.mk (below_step (by with_reducible exact HB.out) hb);(try clear hb);(try clear hb2);(try clear hk);(try clear hi)))
       go_roundg k1
       case measure=>have:=HK1.out;omega
       case rel=>exact ⟨(wrap64 (x7_1 + 1)),(by rfl),H',⟨by have:=HK1.out;omega⟩,⟨HB.out⟩⟩
      ·rw [if_neg c6] at H
       have c6b0:(t592 == 0) = false:=beq_eq_false_iff_ne.mpr c6
       have c6b1:(t592 != 0) = true:=bne_iff_ne.mpr c6
       obtain rfl:=Option.some.inj H
       have p591:0 ≤ (x7_1:Int):=of_decide_eq_true (by assumption)
       have q591:x7_1 < (l0.length:Int):=of_decide_eq_true (by assumption)
       obtain ⟨ad591,A591_2,c591_2,e591,hx591_0,hx591_1,hx591_2,hl591_2,hi591_2⟩:=at_T26 HR0.out x7_1 p591 q591
       cases e591
       replace hx591_0:=(HB.out.cell (World.block_lt_of_cell? w _ hx591_0)).trans hx591_0
       replace hx591_1:=(HB.out.cell (World.block_lt_of_cell? w _ hx591_1)).trans hx591_1
       replace hx591_2:=(HB.out.cell (World.block_lt_of_cell? w _ hx591_2)).trans hx591_2
       have HR591_2:=Aside0.mk hi591_2
       have HC591_2:=Aside0.mk hl591_2
       clear hi591_2 hl591_2
       replace p591:=eq_true p591
       replace q591:=eq_true q591
       go_wp2_with (((with_reducible refine gate_callee (f:=50) rfl ?_);refine goesL_ (some 14) rfl rfl Try.func50 (by kernel_rfl) rfl #[.agg #[.int .i64 ((rd_T26 l0 x7_1).f0),.int .i64 ((rd_T26 l0 x7_1).f1),.slice A591_2 ((rd_T26 l0 x7_1).f2).length c591_2]] rfl (by (try simp only [List.map_toArray,List.map_cons,List.map_nil]);rfl) ?_;(with_reducible refine (chanceryref1_ElemError.calls k1 ((rd_T26 l0 x7_1).f0) ((rd_T26 l0 x7_1).f1) _ _ ((rd_T26 l0 x7_1).f2) t592 _ ?side1 ?side2 A5.out).mono ?_);(case side1=>repeat (exact (Kd.C_below HR591_2.out HB.out)));(case side2=>exact HC591_2.out);rintro e w8 ⟨rfl,hb⟩;refine ⟨_,rfl,?_⟩;replace HB:=Aside0.mk (below_step (by with_reducible exact HB.out) hb);(try clear hb);(try clear hb2);(try clear hk);(try clear hi)))
       go_ret
       exact ⟨by rfl,HB.out⟩
     ·rw [if_neg c4] at H
      exact absurd H (by simp)
    ·rw [if_neg c3] at H
     exact absurd H (by simp)
   ·rw [if_neg c2] at H
    have c2b0:decide (x7_1 < (l0.length:Int)) = false:=decide_eq_false c2
    clear c2
    obtain rfl:=Option.some.inj H
    go_wp2
    go_ret
    exact ⟨by rfl,HB.out⟩
end Go.Proofs.Ytlcodfjlbhjkbaa.PDelta
end
section
namespace Go.Proofs.Ytlcodfjlbhjkbaa.PDelta
open Go.RowKit Go.Proofs.YtlcodfjlbhjkbaaW.PrintWords Go.Proofs.YtlcodfjlbhjkbaaW.PrintLast Go.Proofs.YtlcodfjlbhjkbaaW.PrintMore
theorem wrap_up {i:Int} (h0:0 ≤ i) (h:i ≤ 1099511627776):wrap64 (i + 1) = i + 1:=by unfold wrap64;omega
theorem wrap_dn {i:Int} (h0:0 ≤ i) (h:i ≤ 1099511627776):wrap64 (i - 1) = i - 1:=by unfold wrap64;omega
def chOK (first:Prop) (c:Int):Prop:=(97 ≤ c ∧ c ≤ 122) ∨ (¬ first ∧ (c = 46 ∨ c = 45 ∨ (48 ≤ c ∧ c ≤ 57)))
def NameOK (s:ByteArray):Prop:=1 ≤ s.size ∧ s.size ≤ 24 ∧ ∀ i:Int,0 ≤ i → i < s.size → chOK (i = 0) (bt s i)
def ValOK (s:ByteArray):Prop:=1 ≤ s.size ∧ s.size ≤ 200 ∧ ∀ i:Int,0 ≤ i → i < s.size → 32 ≤ bt s i ∧ bt s i ≤ 126
theorem size_list (s:ByteArray):s.toList.length = s.size:=by rw [ByteArray.toList_eq];rfl
theorem list_nil {s:ByteArray}:s.toList = [] ↔ s.size = 0:=by rw [← size_list,List.length_eq_zero_iff]
theorem ba_ext {a b:ByteArray} (h:a.toList = b.toList):a = b:=by
 rw [ByteArray.toList_eq,ByteArray.toList_eq] at h
 cases a;cases b;congr;exact Array.toList_inj.1 h
theorem rname_l0 (s:ByteArray) (hs:s.size ≤ 1099511627776) (d:Nat):∀ (k:Nat) (i:Int),0 ≤ i → i ≤ s.size → (s.size:Int) - i = d → d < k →
 ∃ b,chanceryref1_Name.l0 k s (s.size:Int) i = some b ∧ (b = true ↔ (1 ≤ s.size ∧ s.size ≤ 24 ∧ ∀ j:Int,i ≤ j → j < s.size → chOK (j = 0) (bt s j))):=by
 induction d with
 | zero =>
  intro k i h0 h1 hd hk
  obtain ⟨k,rfl⟩:∃ m,k = m + 1:=⟨k - 1,by omega⟩
  simp only [chanceryref1_Name.l0]
  rw [if_neg (by omega)]
  by_cases hz:(s.size:Int) ≥ 1
  ·rw [if_pos hz]
   refine ⟨_,rfl,?_⟩
   rw [decide_eq_true_eq]
   exact ⟨fun h=>⟨by omega,by omega,fun j h2 h3=>by omega⟩,fun h=>by omega⟩
  ·rw [if_neg hz]
   exact ⟨false,rfl,by simp;omega⟩
 | succ d ih =>
  intro k i h0 h1 hd hk
  obtain ⟨k,rfl⟩:∃ m,k = m + 1:=⟨k - 1,by omega⟩
  have hlt:i < (s.size:Int):=by omega
  by_cases hc:chOK (i = 0) (bt s i)
  ·have e:chanceryref1_Name.l0 (k + 1) s (s.size:Int) i = chanceryref1_Name.l0 k s (s.size:Int) (i + 1):=by
    simp only [chanceryref1_Name.l0]
    rw [if_pos hlt,if_pos h0,if_pos hlt,wrap_up h0 (by omega)]
    unfold chOK at hc
    repeat' (first | rfl | split)
    all_goals (exfalso;omega)
   obtain ⟨b,hb,hi⟩:=ih k (i + 1) (by omega) (by omega) (by omega) (by omega)
   refine ⟨b,e.trans hb,hi.trans ⟨fun ⟨a1,a2,a3⟩=>⟨a1,a2,fun j h2 h3=>?_⟩,fun ⟨a1,a2,a3⟩=>⟨a1,a2,fun j h2 h3=>a3 j (by omega) h3⟩⟩⟩
   rcases Int.lt_or_eq_of_le h2 with h4 | h4
   ·exact a3 j (by omega) h3
   ·subst h4;exact hc
  ·refine ⟨false,?_,⟨(fun h=>by cases h),(fun h=>absurd (h.2.2 i (Int.le_refl _) hlt) hc)⟩⟩
   simp only [chanceryref1_Name.l0]
   rw [if_pos hlt,if_pos h0,if_pos hlt]
   unfold chOK at hc
   repeat' (first | rfl | split)
   all_goals (exfalso;omega)
theorem rname_ev (s:ByteArray) (hs:s.size ≤ 1099511627776):∃ b,Ev (fun k=>chanceryref1_Name.f k s) b ∧ (b = true ↔ NameOK s):=by
 obtain ⟨b,hb,hi⟩:=rname_l0 s hs s.size (s.size + 1) 0 (by omega) (by omega) (by omega) (by omega)
 exact ⟨b,Ev.of (fun k=>chanceryref1_Name.mono s k) (k:=s.size + 1) hb,hi⟩
theorem name_l0 (s:ByteArray) (hs:s.size ≤ 1099511627776) (d:Nat):∀ (k:Nat) (i:Int),0 ≤ i → i ≤ s.size → (s.size:Int) - i = d → d < k →
 ∃ b,attr_Name.l0 k s (s.size:Int) i = some b ∧ (b = true ↔ ∀ j:Int,i ≤ j → j < s.size → chOK False (bt s j)):=by
 induction d with
 | zero =>
  intro k i h0 h1 hd hk
  obtain ⟨k,rfl⟩:∃ m,k = m + 1:=⟨k - 1,by omega⟩
  simp only [attr_Name.l0]
  rw [if_neg (by omega)]
  exact ⟨true,rfl,⟨fun _ j h2 h3=>by omega,fun _=>rfl⟩⟩
 | succ d ih =>
  intro k i h0 h1 hd hk
  obtain ⟨k,rfl⟩:∃ m,k = m + 1:=⟨k - 1,by omega⟩
  have hlt:i < (s.size:Int):=by omega
  by_cases hc:chOK False (bt s i)
  ·have e:attr_Name.l0 (k + 1) s (s.size:Int) i = attr_Name.l0 k s (s.size:Int) (i + 1):=by
    simp only [attr_Name.l0]
    rw [if_pos hlt,if_pos h0,if_pos hlt,wrap_up h0 (by omega)]
    unfold chOK at hc
    repeat' (first | rfl | split)
    all_goals (exfalso;omega)
   obtain ⟨b,hb,hi⟩:=ih k (i + 1) (by omega) (by omega) (by omega) (by omega)
   refine ⟨b,e.trans hb,hi.trans ⟨fun h j h2 h3=>?_,fun h j h2 h3=>h j (by omega) h3⟩⟩
   rcases Int.lt_or_eq_of_le h2 with h4 | h4
   ·exact h j (by omega) h3
   ·subst h4;exact hc
  ·refine ⟨false,?_,⟨(fun h=>by cases h),(fun h=>absurd (h i (Int.le_refl _) hlt) hc)⟩⟩
   have hc':¬ ((97 ≤ bt s i ∧ bt s i ≤ 122) ∨ (bt s i = 46 ∨ bt s i = 45 ∨ (48 ≤ bt s i ∧ bt s i ≤ 57))):=fun h=>hc (h.imp id (fun h=>⟨id,h⟩))
   clear hc
   simp only [attr_Name.l0]
   rw [if_pos hlt,if_pos h0,if_pos hlt]
   repeat' (first | rfl | split)
   all_goals (exfalso;omega)
theorem name_ev (s:ByteArray) (hs:s.size ≤ 1099511627776):∃ b,Ev (fun k=>attr_Name.f k s) b ∧ (b = true ↔ NameOK s):=by
 have bad:∀ k,attr_Name.j0 (k + 1) s true = some false:=fun k=>by simp only [attr_Name.j0];rw [if_pos trivial]
 have fls:¬ NameOK s → attr_Name.f 1 s = some false → ∃ b,Ev (fun k=>attr_Name.f k s) b ∧ (b = true ↔ NameOK s):=fun h e=>⟨false,Ev.of (fun k=>attr_Name.mono s k) e,⟨(fun h=>by cases h),(fun h'=>absurd h' h)⟩⟩
 by_cases h0:s.size = 0
 ·exact fls (fun h=>by have:=h.1;omega) (by simp only [attr_Name.f];rw [if_pos (list_nil.2 h0)];exact bad 0)
 have hn:¬ s.toList = []:=fun h=>h0 (list_nil.1 h)
 by_cases h1:(s.size:Int) > 24
 ·exact fls (fun h=>by have:=h.2.1;omega) (by simp only [attr_Name.f];rw [if_neg hn,if_pos h1];exact bad 0)
 by_cases h2:bt s 0 < 97
 ·exact fls (fun h=>by have:=h.2.2 0 (Int.le_refl _) (by omega);unfold chOK at this;simp at this;omega) (by simp only [attr_Name.f];rw [if_neg hn,if_neg h1,if_pos (by omega),if_pos h2];exact bad 0)
 by_cases h3:bt s 0 > 122
 ·exact fls (fun h=>by have:=h.2.2 0 (Int.le_refl _) (by omega);unfold chOK at this;simp at this;omega) (by simp only [attr_Name.f];rw [if_neg hn,if_neg h1,if_pos (by omega),if_neg h2,decide_eq_true h3];exact bad 0)
 obtain ⟨b,hb,hi⟩:=name_l0 s hs s.size (s.size + 1) 0 (by omega) (by omega) (by omega) (by omega)
 refine ⟨b,Ev.of (fun k=>attr_Name.mono s k) (k:=s.size + 2) ?_,hi.trans ⟨fun h=>⟨by omega,by omega,fun j a1 a2=>?_⟩,fun h j a1 a2=>?_⟩⟩
 ·simp only [attr_Name.f]
  rw [if_neg hn,if_neg h1,if_pos (by omega),if_neg h2,decide_eq_false h3]
  simp only [attr_Name.j0]
  rw [if_neg (by decide)]
  exact hb
 ·rcases h j a1 a2 with h4 | ⟨_,h4⟩
  ·exact .inl h4
  ·by_cases hj:j = 0
   ·subst hj
    exact .inl (by omega)
   ·exact .inr ⟨hj,h4⟩
 ·rcases h.2.2 j a1 a2 with h4 | ⟨_,h4⟩
  ·exact .inl h4
  ·exact .inr ⟨id,h4⟩
theorem rval_l0 (s:ByteArray) (hs:s.size ≤ 1099511627776) (d:Nat):∀ (k:Nat) (i:Int),0 ≤ i → i ≤ s.size → (s.size:Int) - i = d → d < k →
 ∃ b,chanceryref1_Value.l0 k s (s.size:Int) i = some b ∧ (b = true ↔ (1 ≤ s.size ∧ s.size ≤ 200 ∧ ∀ j:Int,i ≤ j → j < s.size → 32 ≤ bt s j ∧ bt s j ≤ 126)):=by
 induction d with
 | zero =>
  intro k i h0 h1 hd hk
  obtain ⟨k,rfl⟩:∃ m,k = m + 1:=⟨k - 1,by omega⟩
  simp only [chanceryref1_Value.l0]
  rw [if_neg (by omega)]
  by_cases hz:(s.size:Int) ≥ 1
  ·rw [if_pos hz]
   refine ⟨_,rfl,?_⟩
   rw [decide_eq_true_eq]
   exact ⟨fun h=>⟨by omega,by omega,fun j h2 h3=>by omega⟩,fun h=>by omega⟩
  ·rw [if_neg hz]
   exact ⟨false,rfl,by simp;omega⟩
 | succ d ih =>
  intro k i h0 h1 hd hk
  obtain ⟨k,rfl⟩:∃ m,k = m + 1:=⟨k - 1,by omega⟩
  have hlt:i < (s.size:Int):=by omega
  by_cases hc:32 ≤ bt s i ∧ bt s i ≤ 126
  ·have e:chanceryref1_Value.l0 (k + 1) s (s.size:Int) i = chanceryref1_Value.l0 k s (s.size:Int) (i + 1):=by
    simp only [chanceryref1_Value.l0]
    rw [if_pos hlt,if_pos h0,if_pos hlt,wrap_up h0 (by omega),if_neg (by omega),if_neg (by omega)]
   obtain ⟨b,hb,hi⟩:=ih k (i + 1) (by omega) (by omega) (by omega) (by omega)
   refine ⟨b,e.trans hb,hi.trans ⟨fun ⟨a1,a2,a3⟩=>⟨a1,a2,fun j h2 h3=>?_⟩,fun ⟨a1,a2,a3⟩=>⟨a1,a2,fun j h2 h3=>a3 j (by omega) h3⟩⟩⟩
   rcases Int.lt_or_eq_of_le h2 with h4 | h4
   ·exact a3 j (by omega) h3
   ·subst h4;exact hc
  ·refine ⟨false,?_,⟨(fun h=>by cases h),(fun h=>absurd (h.2.2 i (Int.le_refl _) hlt) hc)⟩⟩
   simp only [chanceryref1_Value.l0]
   rw [if_pos hlt,if_pos h0,if_pos hlt]
   repeat' (first | rfl | split)
   all_goals (exfalso;omega)
theorem rval_ev (s:ByteArray) (hs:s.size ≤ 1099511627776):∃ b,Ev (fun k=>chanceryref1_Value.f k s) b ∧ (b = true ↔ ValOK s):=by
 obtain ⟨b,hb,hi⟩:=rval_l0 s hs s.size (s.size + 1) 0 (by omega) (by omega) (by omega) (by omega)
 exact ⟨b,Ev.of (fun k=>chanceryref1_Value.mono s k) (k:=s.size + 1) hb,hi⟩
theorem val_l0 (s:ByteArray) (hs:s.size ≤ 1099511627776) (d:Nat):∀ (k:Nat) (i:Int),0 ≤ i → i ≤ s.size → (s.size:Int) - i = d → d < k →
 ∃ b,attr_Value.l0 k s (s.size:Int) i = some b ∧ (b = true ↔ ∀ j:Int,i ≤ j → j < s.size → 32 ≤ bt s j ∧ bt s j ≤ 126):=by
 induction d with
 | zero =>
  intro k i h0 h1 hd hk
  obtain ⟨k,rfl⟩:∃ m,k = m + 1:=⟨k - 1,by omega⟩
  simp only [attr_Value.l0]
  rw [if_neg (by omega)]
  exact ⟨true,rfl,⟨fun _ j h2 h3=>by omega,fun _=>rfl⟩⟩
 | succ d ih =>
  intro k i h0 h1 hd hk
  obtain ⟨k,rfl⟩:∃ m,k = m + 1:=⟨k - 1,by omega⟩
  have hlt:i < (s.size:Int):=by omega
  by_cases hc:32 ≤ bt s i ∧ bt s i ≤ 126
  ·have e:attr_Value.l0 (k + 1) s (s.size:Int) i = attr_Value.l0 k s (s.size:Int) (i + 1):=by
    simp only [attr_Value.l0]
    rw [if_pos hlt,if_pos h0,if_pos hlt,wrap_up h0 (by omega),if_neg (by omega),if_neg (by omega)]
   obtain ⟨b,hb,hi⟩:=ih k (i + 1) (by omega) (by omega) (by omega) (by omega)
   refine ⟨b,e.trans hb,hi.trans ⟨fun h j h2 h3=>?_,fun h j h2 h3=>h j (by omega) h3⟩⟩
   rcases Int.lt_or_eq_of_le h2 with h4 | h4
   ·exact h j (by omega) h3
   ·subst h4;exact hc
  ·refine ⟨false,?_,⟨(fun h=>by cases h),(fun h=>absurd (h i (Int.le_refl _) hlt) hc)⟩⟩
   simp only [attr_Value.l0]
   rw [if_pos hlt,if_pos h0,if_pos hlt]
   repeat' (first | rfl | split)
   all_goals (exfalso;omega)
theorem val_ev (s:ByteArray) (hs:s.size ≤ 1099511627776):∃ b,Ev (fun k=>attr_Value.f k s) b ∧ (b = true ↔ ValOK s):=by
 have bad:∀ k,attr_Value.j0 (k + 1) s true = some false:=fun k=>by simp only [attr_Value.j0];rw [if_pos trivial]
 have fls:¬ ValOK s → attr_Value.f 1 s = some false → ∃ b,Ev (fun k=>attr_Value.f k s) b ∧ (b = true ↔ ValOK s):=fun h e=>⟨false,Ev.of (fun k=>attr_Value.mono s k) e,⟨(fun h=>by cases h),(fun h'=>absurd h' h)⟩⟩
 by_cases h0:s.size = 0
 ·exact fls (fun h=>by have:=h.1;omega) (by simp only [attr_Value.f];rw [if_pos (list_nil.2 h0)];exact bad 0)
 have hn:¬ s.toList = []:=fun h=>h0 (list_nil.1 h)
 by_cases h1:(s.size:Int) > 200
 ·exact fls (fun h=>by have:=h.2.1;omega) (by simp only [attr_Value.f];rw [if_neg hn,decide_eq_true h1];exact bad 0)
 obtain ⟨b,hb,hi⟩:=val_l0 s hs s.size (s.size + 1) 0 (by omega) (by omega) (by omega) (by omega)
 refine ⟨b,Ev.of (fun k=>attr_Value.mono s k) (k:=s.size + 2) ?_,hi.trans ⟨fun h=>⟨by omega,by omega,h⟩,fun h=>h.2.2⟩⟩
 simp only [attr_Value.f]
 rw [if_neg hn,decide_eq_false h1]
 simp only [attr_Value.j0]
 rw [if_neg (by decide)]
 exact hb
def Small (l:List S91):Prop:=l.length ≤ 1099511627776 ∧ ∀ x ∈ l,x.f0.size ≤ 1099511627776 ∧ x.f1.size ≤ 1099511627776
def ElOK (ch:Bool) (x:S91):Prop:=NameOK x.f0 ∧ (ValOK x.f1 ∨ (ch = true ∧ x.f1.size = 0))
def Srt (l:List S91):Prop:=l.Pairwise (fun x y=>ltS x y = true)
def VA (ch:Bool) (l:List S91):Prop:=(∀ x ∈ l,ElOK ch x) ∧ Srt l
def EL (ch:Bool) (l:List S91) (j:Int):Prop:=ElOK ch (rd_T91 l j) ∧ (0 < j → ltS (rd_T91 l (j - 1)) (rd_T91 l j) = true)
theorem rd_mem {l:List S91} {i:Int} (h0:0 ≤ i) (h:i < l.length):rd_T91 l i ∈ l:=by
 have:i.toNat < l.length:=by omega
 simp only [rd_T91,List.getD_eq_getElem?_getD,List.getElem?_eq_getElem this,Option.getD_some]
 exact List.getElem_mem this
theorem rd_cons {x:S91} {l:List S91} {i:Int} (h0:0 ≤ i):rd_T91 (x :: l) (i + 1) = rd_T91 l i:=by
 have:(i + 1).toNat = i.toNat + 1:=by omega
 simp [rd_T91,this]
theorem mem_rd {l:List S91} {x:S91} (h:x ∈ l):∃ i:Int,0 ≤ i ∧ i < l.length ∧ rd_T91 l i = x:=by
 obtain ⟨j,hj,e⟩:=List.getElem_of_mem h
 exact ⟨(j:Int),by omega,by omega,by simp [rd_T91,List.getD_eq_getElem?_getD,List.getElem?_eq_getElem hj,e]⟩
theorem va_of_el (ch:Bool) (l:List S91):(∀ j:Int,0 ≤ j → j < l.length → EL ch l j) → VA ch l:=by
 intro h
 refine ⟨fun x hx=>?_,?_⟩
 ·obtain ⟨i,h0,h1,rfl⟩:=mem_rd hx
  exact (h i h0 h1).1
 ·have h':∀ j:Int,0 < j → j < l.length → ltS (rd_T91 l (j - 1)) (rd_T91 l j) = true:=fun j h0 h1=>(h j (by omega) h1).2 h0
  clear h
  induction l with
  | nil=>exact List.Pairwise.nil
  | cons x l ih =>
   have hs:Srt l:=ih (fun j h0 h1=>by
    have:=h' (j + 1) (by omega) (by simp;omega)
    rw [rd_cons (by omega),show j + 1 - 1 = (j - 1) + 1 by omega,rd_cons (by omega)] at this
    exact this)
   refine List.Pairwise.cons (fun y hy=>?_) hs
   cases l with
   | nil=>cases hy
   | cons z t =>
    have hxz:ltS x z = true:=by
     have:=h' 1 (by omega) (by simp;omega)
     simpa [rd_T91] using this
    rcases List.mem_cons.1 hy with rfl | hy
    ·exact hxz
    ·exact Ord.less_trans hxz ((List.pairwise_cons.1 hs).1 y hy)
theorem el_of_va (ch:Bool) (l:List S91) (h:VA ch l):∀ j:Int,0 ≤ j → j < l.length → EL ch l j:=by
 intro j h0 h1
 refine ⟨h.1 _ (rd_mem h0 h1),fun hj=>?_⟩
 have:=List.pairwise_iff_getElem.1 h.2 (j - 1).toNat j.toNat (by omega) (by omega) (by omega)
 simpa [rd_T91,List.getD_eq_getElem?_getD,List.getElem?_eq_getElem (show j.toNat - 1 < l.length by omega),List.getElem?_eq_getElem (show j.toNat < l.length by omega)] using this
theorem rerr_l0 (l:List S91) (ch:Bool) (hs:Small l) (d:Nat):∀ i:Int,0 ≤ i → i ≤ l.length → (l.length:Int) - i = d →
 ∃ r:Int,Ev (fun k=>chanceryref1_AttrsError.l0 k l ch (l.length:Int) i) r ∧ (r = 0 ↔ ∀ j:Int,i ≤ j → j < l.length → EL ch l j):=by
 induction d with
 | zero =>
  intro i h0 h1 hd
  refine ⟨0,Ev.step (f:=fun _=>some 0) (fun k=>?_) (Ev.now 0),⟨fun _ j h2 h3=>by omega,fun _=>rfl⟩⟩
  simp only [chanceryref1_AttrsError.l0]
  rw [if_neg (by omega)]
 | succ d ih =>
  intro i h0 h1 hd
  have hlt:i < (l.length:Int):=by omega
  have hsz:=hs.2 _ (rd_mem h0 hlt)
  have hs1:=hs.1
  obtain ⟨b,hb,hbn⟩:=rname_ev _ hsz.1
  obtain ⟨c,hc,hcv⟩:=rval_ev _ hsz.2
  cases b with
  | false =>
   refine ⟨9,Ev.step (fun k=>by simp only [chanceryref1_AttrsError.l0];rw [if_pos hlt,if_pos h0,if_pos hlt]) (Ev.bind hb (Ev.congr (fun k=>by rw [if_neg (by decide)]) (Ev.now 9))),⟨fun h=>by omega,fun h=>?_⟩⟩
   exact absurd (hbn.2 (h i (Int.le_refl _) hlt).1.1) (by decide)
  | true =>
   have hno:=hbn.1 rfl
   have key:∀ bad:Bool,(bad = false ↔ (ValOK (rd_T91 l i).f1 ∨ (ch = true ∧ (rd_T91 l i).f1.size = 0))) →
    ∃ r:Int,Ev (fun k=>chanceryref1_AttrsError.j1 k l ch i (l.length:Int) i bad) r ∧ (r = 0 ↔ ∀ j:Int,i ≤ j → j < l.length → EL ch l j):=by
    intro bad hbad
    cases bad with
    | true =>
     refine ⟨23,Ev.step (fun k=>by simp only [chanceryref1_AttrsError.j1];rw [if_pos (by decide)]) (Ev.now 23),⟨fun h=>by omega,fun h=>?_⟩⟩
     exact absurd (hbad.2 (h i (Int.le_refl _) hlt).1.2) (by decide)
    | false =>
     have hel:ElOK ch (rd_T91 l i):=⟨hno,hbad.1 rfl⟩
     obtain ⟨r,hr,hri⟩:=ih (i + 1) (by omega) (by omega) (by omega)
     by_cases hi:i > 0
     ·cases hlt':ltS (rd_T91 l (i - 1)) (rd_T91 l i) with
      | true =>
       refine ⟨r,Ev.step (fun k=>by
        simp only [chanceryref1_AttrsError.j1]
        rw [if_neg (by decide),if_pos hi,wrap_dn h0 (by omega),if_pos (by omega),if_pos (by omega),if_pos h0,if_pos hlt,if_pos hlt',wrap_up h0 (by omega)]) hr,hri.trans ⟨fun h j h2 h3=>?_,fun h j h2 h3=>h j (by omega) h3⟩⟩
       rcases Int.lt_or_eq_of_le h2 with h4 | h4
       ·exact h j (by omega) h3
       ·subst h4;exact ⟨hel,fun _=>hlt'⟩
      | false =>
       refine ⟨5,Ev.step (fun k=>by
        simp only [chanceryref1_AttrsError.j1]
        rw [if_neg (by decide),if_pos hi,wrap_dn h0 (by omega),if_pos (by omega),if_pos (by omega),if_pos h0,if_pos hlt,if_neg (fun h=>absurd (h.symm.trans hlt') (by decide))]) (Ev.now 5),⟨fun h=>by omega,fun h=>?_⟩⟩
       have:=(h i (Int.le_refl _) hlt).2 hi
       rw [hlt'] at this;cases this
     ·refine ⟨r,Ev.step (fun k=>by
       simp only [chanceryref1_AttrsError.j1]
       rw [if_neg (by decide),if_neg hi,wrap_up h0 (by omega)]) hr,hri.trans ⟨fun h j h2 h3=>?_,fun h j h2 h3=>h j (by omega) h3⟩⟩
      rcases Int.lt_or_eq_of_le h2 with h4 | h4
      ·exact h j (by omega) h3
      ·subst h4;exact ⟨hel,fun h=>absurd h hi⟩
   cases c with
   | true =>
    obtain ⟨r,hr,hri⟩:=key false ⟨fun _=>.inl (hcv.1 rfl),fun _=>rfl⟩
    exact ⟨r,Ev.step (fun k=>by simp only [chanceryref1_AttrsError.l0];rw [if_pos hlt,if_pos h0,if_pos hlt]) (Ev.bind hb (Ev.congr (fun k=>by rw [if_pos (by decide)]) (Ev.bind hc (Ev.congr (fun k=>by rw [if_pos (by decide)]) hr)))),hri⟩
   | false =>
    have hnv:¬ ValOK (rd_T91 l i).f1:=fun h=>absurd (hcv.2 h) (by decide)
    by_cases he:(rd_T91 l i).f1.toList = []
    ·obtain ⟨r,hr,hri⟩:=key (!ch) (by
      cases ch with
      | true=>exact ⟨fun _=>.inr ⟨rfl,list_nil.1 he⟩,fun _=>rfl⟩
      | false=>exact ⟨(fun h=>by cases h),(fun h=>by rcases h with h | ⟨h,_⟩;exact absurd h hnv;cases h)⟩)
     exact ⟨r,Ev.step (fun k=>by simp only [chanceryref1_AttrsError.l0];rw [if_pos hlt,if_pos h0,if_pos hlt]) (Ev.bind hb (Ev.congr (fun k=>by rw [if_pos (by decide)]) (Ev.bind hc (Ev.congr (fun k=>by rw [if_neg (by decide),if_pos he]) hr)))),hri⟩
    ·obtain ⟨r,hr,hri⟩:=key true ⟨(fun h=>by cases h),(fun h=>by rcases h with h | ⟨_,h⟩;exact absurd h hnv;exact absurd (list_nil.2 h) he)⟩
     exact ⟨r,Ev.step (fun k=>by simp only [chanceryref1_AttrsError.l0];rw [if_pos hlt,if_pos h0,if_pos hlt]) (Ev.bind hb (Ev.congr (fun k=>by rw [if_pos (by decide)]) (Ev.bind hc (Ev.congr (fun k=>by rw [if_neg (by decide),if_neg he]) hr)))),hri⟩
theorem rerr_ev (l:List S91) (ch:Bool) (hs:Small l):∃ r:Int,Ev (fun k=>chanceryref1_AttrsError.f k l ch) r ∧ (r = 0 ↔ VA ch l):=by
 obtain ⟨r,hr,hri⟩:=rerr_l0 l ch hs l.length 0 (by omega) (by omega) (by omega)
 exact ⟨r,hr,hri.trans ⟨va_of_el ch l,el_of_va ch l⟩⟩
theorem chk_l0 (l:List S91) (ch:Bool) (hs:Small l) (d:Nat):∀ i:Int,0 ≤ i → i ≤ l.length → (l.length:Int) - i = d →
 ∃ r:Int,Ev (fun k=>attr_check.l0 k l ch l (l.length:Int) i) r ∧ (r = 0 ↔ ∀ j:Int,i ≤ j → j < l.length → EL ch l j):=by
 induction d with
 | zero =>
  intro i h0 h1 hd
  refine ⟨0,Ev.step (f:=fun _=>some 0) (fun k=>?_) (Ev.now 0),⟨fun _ j h2 h3=>by omega,fun _=>rfl⟩⟩
  simp only [attr_check.l0]
  rw [if_neg (by omega)]
 | succ d ih =>
  intro i h0 h1 hd
  have hlt:i < (l.length:Int):=by omega
  have hsz:=hs.2 _ (rd_mem h0 hlt)
  have hs1:=hs.1
  obtain ⟨b,hb,hbn⟩:=name_ev _ hsz.1
  obtain ⟨c,hc,hcv⟩:=val_ev _ hsz.2
  cases b with
  | false =>
   refine ⟨9,Ev.step (fun k=>by simp only [attr_check.l0];rw [if_pos hlt,if_pos h0,if_pos hlt]) (Ev.bind hb (Ev.congr (fun k=>by rw [if_neg (by decide)]) (Ev.now 9))),⟨fun h=>by omega,fun h=>?_⟩⟩
   exact absurd (hbn.2 (h i (Int.le_refl _) hlt).1.1) (by decide)
  | true =>
   have hno:=hbn.1 rfl
   have key:∀ bad:Bool,(bad = false ↔ (ValOK (rd_T91 l i).f1 ∨ (ch = true ∧ (rd_T91 l i).f1.size = 0))) →
    ∃ r:Int,Ev (fun k=>attr_check.j1 k l ch i l (l.length:Int) i bad (rd_T91 l i).f0 (rd_T91 l i).f1) r ∧ (r = 0 ↔ ∀ j:Int,i ≤ j → j < l.length → EL ch l j):=by
    intro bad hbad
    cases bad with
    | true =>
     refine ⟨23,Ev.step (fun k=>by simp only [attr_check.j1];rw [if_pos (by decide)]) (Ev.now 23),⟨fun h=>by omega,fun h=>?_⟩⟩
     exact absurd (hbad.2 (h i (Int.le_refl _) hlt).1.2) (by decide)
    | false =>
     have hel:ElOK ch (rd_T91 l i):=⟨hno,hbad.1 rfl⟩
     obtain ⟨r,hr,hri⟩:=ih (i + 1) (by omega) (by omega) (by omega)
     by_cases hi:i > 0
     ·cases hlt':ltS (rd_T91 l (i - 1)) (rd_T91 l i) with
      | true =>
       refine ⟨r,Ev.step (fun k=>by
        simp only [attr_check.j1]
        rw [if_neg (by decide),if_pos hi,wrap_dn h0 (by omega),if_pos (by omega),if_pos (by omega),if_pos hlt',wrap_up h0 (by omega)]) hr,hri.trans ⟨fun h j h2 h3=>?_,fun h j h2 h3=>h j (by omega) h3⟩⟩
       rcases Int.lt_or_eq_of_le h2 with h4 | h4
       ·exact h j (by omega) h3
       ·subst h4;exact ⟨hel,fun _=>hlt'⟩
      | false =>
       refine ⟨5,Ev.step (fun k=>by
        simp only [attr_check.j1]
        rw [if_neg (by decide),if_pos hi,wrap_dn h0 (by omega),if_pos (by omega),if_pos (by omega),if_neg (fun h=>absurd (h.symm.trans hlt') (by decide))]) (Ev.now 5),⟨fun h=>by omega,fun h=>?_⟩⟩
       have:=(h i (Int.le_refl _) hlt).2 hi
       rw [hlt'] at this;cases this
     ·refine ⟨r,Ev.step (fun k=>by
       simp only [attr_check.j1]
       rw [if_neg (by decide),if_neg hi,wrap_up h0 (by omega)]) hr,hri.trans ⟨fun h j h2 h3=>?_,fun h j h2 h3=>h j (by omega) h3⟩⟩
      rcases Int.lt_or_eq_of_le h2 with h4 | h4
      ·exact h j (by omega) h3
      ·subst h4;exact ⟨hel,fun h=>absurd h hi⟩
   cases c with
   | true =>
    obtain ⟨r,hr,hri⟩:=key false ⟨fun _=>.inl (hcv.1 rfl),fun _=>rfl⟩
    exact ⟨r,Ev.step (fun k=>by simp only [attr_check.l0];rw [if_pos hlt,if_pos h0,if_pos hlt]) (Ev.bind hb (Ev.congr (fun k=>by rw [if_pos (by decide)]) (Ev.bind hc (Ev.congr (fun k=>by rw [if_pos (by decide)]) hr)))),hri⟩
   | false =>
    have hnv:¬ ValOK (rd_T91 l i).f1:=fun h=>absurd (hcv.2 h) (by decide)
    cases ch with
    | false =>
     obtain ⟨r,hr,hri⟩:=key true ⟨(fun h=>by cases h),(fun h=>by rcases h with h | ⟨h,_⟩;exact absurd h hnv;cases h)⟩
     exact ⟨r,Ev.step (fun k=>by simp only [attr_check.l0];rw [if_pos hlt,if_pos h0,if_pos hlt]) (Ev.bind hb (Ev.congr (fun k=>by rw [if_pos (by decide)]) (Ev.bind hc (Ev.congr (fun k=>by rw [if_neg (by decide),if_neg (by decide)];rfl) hr)))),hri⟩
    | true =>
     obtain ⟨r,hr,hri⟩:=key (!((rd_T91 l i).f1.toList == ([]:List UInt8))) (by
      by_cases he:(rd_T91 l i).f1.toList = []
      ·rw [he];exact ⟨fun _=>.inr ⟨rfl,list_nil.1 he⟩,fun _=>rfl⟩
      ·exact ⟨(fun h=>by simp at h;exact absurd h he),(fun h=>by rcases h with h | ⟨_,h⟩;exact absurd h hnv;exact absurd (list_nil.2 h) he)⟩)
     exact ⟨r,Ev.step (fun k=>by simp only [attr_check.l0];rw [if_pos hlt,if_pos h0,if_pos hlt]) (Ev.bind hb (Ev.congr (fun k=>by rw [if_pos (by decide)]) (Ev.bind hc (Ev.congr (fun k=>by rw [if_neg (by decide),if_pos trivial]) hr)))),hri⟩
theorem chkc_ev (l:List S91) (hs:Small l):∃ r:Int,Ev (fun k=>attr_CheckChange.f k l) r ∧ (r = 0 ↔ VA true l):=by
 obtain ⟨r,hr,hri⟩:=chk_l0 l true hs l.length 0 (by omega) (by omega) (by omega)
 exact ⟨r,Ev.bind (g:=fun k=>attr_check.f k l true) hr (Ev.now r),hri.trans ⟨va_of_el true l,el_of_va true l⟩⟩
theorem chk_ev (l:List S91) (hs:Small l):∃ r:Int,Ev (fun k=>attr_Check.f k l) r ∧ (r = 0 ↔ VA false l):=by
 obtain ⟨r,hr,hri⟩:=chk_l0 l false hs l.length 0 (by omega) (by omega) (by omega)
 exact ⟨r,Ev.bind (g:=fun k=>attr_check.f k l false) hr (Ev.now r),hri.trans ⟨va_of_el false l,el_of_va false l⟩⟩
def CharOK (c:Int):Prop:=c = 9 ∨ c = 10 ∨ (32 ≤ c ∧ c ≤ 126) ∨ (160 ≤ c ∧ c ≤ 55295) ∨ (57344 ≤ c ∧ c ≤ 1114111)
instance (c:Int):Decidable (CharOK c):=by unfold CharOK;infer_instance
theorem char_is (c:Int):flow_Char.f c = some (decide (CharOK c)):=by
 have e:∀ {p:Prop} [Decidable p] {b:Bool},(p ↔ b = true) → decide p = b:=fun {p} _ {b} h=>by
  cases b with
  | true=>exact decide_eq_true (h.2 rfl)
  | false=>exact decide_eq_false (fun hp=>absurd (h.1 hp) (by decide))
 unfold flow_Char.f
 repeat' split
 all_goals
  refine congrArg some (e ?_).symm
  simp only [iff_true,decide_eq_true_eq,Bool.false_eq_true,iff_false,CharOK]
  omega
theorem rin_is (c a b:Int):chanceryref1_In.f c a b = some (decide (a ≤ c ∧ c ≤ b)):=by
 unfold chanceryref1_In.f
 by_cases h:c ≥ a
 ·rw [if_pos h]
  refine congrArg some ?_
  by_cases h2:c ≤ b
  ·rw [decide_eq_true h2,decide_eq_true (by omega)]
  ·rw [decide_eq_false h2,decide_eq_false (by omega)]
 ·rw [if_neg h,decide_eq_false (by omega)]
theorem rchar_is (c:Int):chanceryref1_Char.f c = some (decide (CharOK c)):=by
 unfold chanceryref1_Char.f
 rw [rin_is,rin_is,rin_is]
 simp only [Option.bind_some]
 by_cases h:CharOK c
 ·rw [decide_eq_true h]
  have h':=h
  unfold CharOK at h'
  repeat' split
  all_goals first | rfl | skip
  refine congrArg some (decide_eq_true ?_)
  rename_i h1 h2 h3 h4
  rw [decide_eq_true_eq] at h3 h4
  omega
 ·rw [decide_eq_false h]
  unfold CharOK at h
  rw [if_neg (by omega),if_neg (by omega),decide_eq_false (by omega),decide_eq_false (by omega),decide_eq_false (by omega)]
  rfl
def ElemOK (x:S26):Prop:=((x.f0 = 0 ∧ 1 ≤ x.f1 ∧ x.f1 ≤ 1073741824) ∨ (x.f1 = 0 ∧ CharOK x.f0)) ∧ VA false x.f2
theorem not_char0:¬ CharOK 0:=by unfold CharOK;omega
theorem elem_ev (x:S26) (hs:Small x.f2):∃ r:Int,Ev (fun k=>flow_elem.f k x.f0 x.f1 x.f2) r ∧ (r = 0 ↔ ElemOK x):=by
 obtain ⟨a,ha,hai⟩:=chk_ev x.f2 hs
 have last:Ev (fun k=>(attr_Check.f k x.f2).bind fun t=>some t) a:=Ev.bind ha (Ev.now a)
 by_cases h0:x.f0 = 0
 ·by_cases h1:x.f1 = 0
  ·refine ⟨4,Ev.congr (fun k=>?_) (Ev.now 4),⟨fun h=>by omega,fun h=>?_⟩⟩
   ·unfold flow_elem.f
    rw [h0,h1]
    rfl
   ·rcases h.1 with h | h
    ·omega
    ·rw [h0] at h;exact absurd h.2 not_char0
  ·have e:∀ k,flow_elem.f (k + 1) x.f0 x.f1 x.f2 = if x.f1 < 1 then some 2 else if x.f1 > 1073741824 then some 2 else (attr_Check.f k x.f2).bind fun t=>some t:=fun k=>by
    unfold flow_elem.f
    rw [h0,if_neg (by simpa using h1),if_neg h1,flow_elem.j0,if_neg (by decide),if_neg h1]
   by_cases h2:1 ≤ x.f1 ∧ x.f1 ≤ 1073741824
   ·refine ⟨a,Ev.step (fun k=>by rw [e,if_neg (by omega),if_neg (by omega)]) last,hai.trans ⟨fun h=>⟨.inl ⟨h0,h2⟩,h⟩,fun h=>h.2⟩⟩
   ·refine ⟨2,Ev.step (f:=fun _=>some 2) (fun k=>by rw [e];split;rfl;rw [if_pos (by omega)]) (Ev.now 2),⟨fun h=>by omega,fun h=>?_⟩⟩
    rcases h.1 with h | h
    ·exact absurd h.2 h2
    ·exact absurd h.1 h1
 ·by_cases h1:x.f1 = 0
  ·have e:∀ k,flow_elem.f (k + 1) x.f0 x.f1 x.f2 = if decide (CharOK x.f0) = true then (attr_Check.f k x.f2).bind fun t=>some t else some 2:=fun k=>by
    unfold flow_elem.f
    rw [h1,if_neg (by simpa using h0),if_pos rfl,char_is,Option.bind_some,flow_elem.j0]
    cases decide (CharOK x.f0) with
    | true=>rw [if_neg (show ¬ ((!true) = true) by decide),if_pos rfl,if_pos rfl]
    | false=>rw [if_pos (show (!false) = true from rfl),if_neg (by decide)]
   by_cases h2:CharOK x.f0
   ·refine ⟨a,Ev.step (fun k=>by rw [e,if_pos (decide_eq_true h2)]) last,hai.trans ⟨fun h=>⟨.inr ⟨h1,h2⟩,h⟩,fun h=>h.2⟩⟩
   ·refine ⟨2,Ev.step (f:=fun _=>some 2) (fun k=>by rw [e,if_neg (by rw [decide_eq_true_eq];exact h2)]) (Ev.now 2),⟨fun h=>by omega,fun h=>?_⟩⟩
    rcases h.1 with h | h
    ·exact absurd h.1 h0
    ·exact absurd h.2 h2
  ·refine ⟨4,Ev.congr (fun k=>?_) (Ev.now 4),⟨fun h=>by omega,fun h=>?_⟩⟩
   ·have e0:(x.f0 != 0) = true:=by simpa using h0
    have e1:(x.f1 != 0) = true:=by simpa using h1
    unfold flow_elem.f
    rw [e0,e1,if_pos (show (true == true) = true from rfl)]
   ·rcases h.1 with h | h
    ·exact absurd h.1 h0
    ·exact absurd h.1 h1
theorem relem_ev (x:S26) (hs:Small x.f2):∃ r:Int,Ev (fun k=>chanceryref1_ElemError.f k x.f0 x.f1 x.f2) r ∧ (r = 0 ↔ ElemOK x):=by
 obtain ⟨a,ha,hai⟩:=rerr_ev x.f2 false hs
 have last:Ev (fun k=>(chanceryref1_AttrsError.f k x.f2 false).bind fun t=>some t) a:=Ev.bind ha (Ev.now a)
 have bad:∀ (r:Int),r ≠ 0 → ¬ ElemOK x → (∀ k,chanceryref1_ElemError.f (k + 1) x.f0 x.f1 x.f2 = some r) → ∃ r:Int,Ev (fun k=>chanceryref1_ElemError.f k x.f0 x.f1 x.f2) r ∧ (r = 0 ↔ ElemOK x) :=
  fun r h1 h2 h3=>⟨r,Ev.step (f:=fun _=>some r) h3 (Ev.now r),⟨fun h=>absurd h h1,fun h=>absurd h h2⟩⟩
 by_cases h0:x.f0 = 0
 ·by_cases h1:x.f1 = 0
  ·refine bad 4 (by decide) (fun h=>?_) (fun k=>?_)
   ·rcases h.1 with h | h
    ·omega
    ·rw [h0] at h;exact absurd h.2 not_char0
   ·unfold chanceryref1_ElemError.f
    rw [if_pos h0,if_pos h1,chanceryref1_ElemError.j0,if_pos rfl]
  ·have e:∀ k,chanceryref1_ElemError.f (k + 1) x.f0 x.f1 x.f2 = if decide (1 ≤ x.f1 ∧ x.f1 ≤ 1073741824) = true then (chanceryref1_AttrsError.f k x.f2 false).bind fun t=>some t else some 2:=fun k=>by
    unfold chanceryref1_ElemError.f
    rw [if_pos h0,if_neg h1,chanceryref1_ElemError.j0,if_neg (by decide),if_pos h0,if_neg h1,rin_is,Option.bind_some]
   by_cases h2:1 ≤ x.f1 ∧ x.f1 ≤ 1073741824
   ·exact ⟨a,Ev.step (fun k=>by rw [e,if_pos (decide_eq_true h2)]) last,hai.trans ⟨fun h=>⟨.inl ⟨h0,h2⟩,h⟩,fun h=>h.2⟩⟩
   ·refine bad 2 (by decide) (fun h=>?_) (fun k=>by rw [e,if_neg (by rw [decide_eq_true_eq];exact h2)])
    rcases h.1 with h | h
    ·exact absurd h.2 h2
    ·exact absurd h.1 h1
 ·by_cases h1:x.f1 = 0
  ·have e:∀ k,chanceryref1_ElemError.f (k + 1) x.f0 x.f1 x.f2 = if decide (CharOK x.f0) = true then (chanceryref1_AttrsError.f k x.f2 false).bind fun t=>some t else some 2:=fun k=>by
    unfold chanceryref1_ElemError.f
    rw [if_neg h0,chanceryref1_ElemError.j0,if_neg (by simp [h1]),if_neg h0,rchar_is,Option.bind_some,if_pos h1]
   by_cases h2:CharOK x.f0
   ·exact ⟨a,Ev.step (fun k=>by rw [e,if_pos (decide_eq_true h2)]) last,hai.trans ⟨fun h=>⟨.inr ⟨h1,h2⟩,h⟩,fun h=>h.2⟩⟩
   ·refine bad 2 (by decide) (fun h=>?_) (fun k=>by rw [e,if_neg (by rw [decide_eq_true_eq];exact h2)])
    rcases h.1 with h | h
    ·exact absurd h.1 h0
    ·exact absurd h.2 h2
  ·refine bad 4 (by decide) (fun h=>?_) (fun k=>?_)
   ·rcases h.1 with h | h
    ·exact absurd h.1 h0
    ·exact absurd h.1 h1
   ·unfold chanceryref1_ElemError.f
    rw [if_neg h0,chanceryref1_ElemError.j0,if_pos (by simp [h1])]
def FSmall (f:List S26):Prop:=f.length ≤ 1073741824 ∧ ∀ x ∈ f,Small x.f2 ∧ x.f2.length ≤ 1073741824
theorem rdf_mem {l:List S26} {i:Int} (h0:0 ≤ i) (h:i < l.length):rd_T26 l i ∈ l:=by
 have:i.toNat < l.length:=by omega
 simp only [rd_T26,List.getD_eq_getElem?_getD,List.getElem?_eq_getElem this,Option.getD_some]
 exact List.getElem_mem this
theorem memf_rd {l:List S26} {x:S26} (h:x ∈ l):∃ i:Int,0 ≤ i ∧ i < l.length ∧ rd_T26 l i = x:=by
 obtain ⟨j,hj,e⟩:=List.getElem_of_mem h
 exact ⟨(j:Int),by omega,by omega,by simp [rd_T26,List.getD_eq_getElem?_getD,List.getElem?_eq_getElem hj,e]⟩
def POK (f:List S26):Prop:=∀ j:Int,0 ≤ j → j < f.length → ElemOK (rd_T26 f j)
theorem part_l0 (f:List S26) (hs:FSmall f) (d:Nat):∀ i:Int,0 ≤ i → i ≤ f.length → (f.length:Int) - i = d →
 ∃ r:Int,Ev (fun k=>flow_CheckPart.l0 k f (f.length:Int) i) r ∧ (r = 0 ↔ ∀ j:Int,i ≤ j → j < f.length → ElemOK (rd_T26 f j)):=by
 induction d with
 | zero =>
  intro i h0 h1 hd
  refine ⟨0,Ev.step (f:=fun _=>some 0) (fun k=>?_) (Ev.now 0),⟨fun _ j h2 h3=>by omega,fun _=>rfl⟩⟩
  simp only [flow_CheckPart.l0]
  rw [if_neg (by omega)]
 | succ d ih =>
  intro i h0 h1 hd
  have hlt:i < (f.length:Int):=by omega
  have hs1:=hs.1
  obtain ⟨e,he,hei⟩:=elem_ev (rd_T26 f i) (hs.2 _ (rdf_mem h0 hlt)).1
  obtain ⟨r,hr,hri⟩:=ih (i + 1) (by omega) (by omega) (by omega)
  by_cases hz:e = 0
  ·subst hz
   refine ⟨r,Ev.step (fun k=>by simp only [flow_CheckPart.l0];rw [if_pos hlt,if_pos h0,if_pos hlt,wrap_up h0 (by omega)]) (Ev.bind he (Ev.congr (fun k=>by rw [if_pos rfl]) hr)),hri.trans ⟨fun h j h2 h3=>?_,fun h j h2 h3=>h j (by omega) h3⟩⟩
   rcases Int.lt_or_eq_of_le h2 with h4 | h4
   ·exact h j (by omega) h3
   ·subst h4;exact hei.1 rfl
  ·refine ⟨e,Ev.step (fun k=>by simp only [flow_CheckPart.l0];rw [if_pos hlt,if_pos h0,if_pos hlt]) (Ev.bind he (Ev.congr (fun k=>by rw [if_neg hz]) (Ev.now e))),⟨fun h=>absurd h hz,fun h=>?_⟩⟩
   exact hei.2 (h i (Int.le_refl _) hlt)
theorem part_ev (f:List S26) (hs:FSmall f):∃ r:Int,Ev (fun k=>flow_CheckPart.f k f) r ∧ (r = 0 ↔ POK f):=part_l0 f hs f.length 0 (by omega) (by omega) (by omega)
theorem rpart_l0 (f:List S26) (hs:FSmall f) (d:Nat):∀ i:Int,0 ≤ i → i ≤ f.length → (f.length:Int) - i = d →
 ∃ r:Int,Ev (fun k=>chanceryref1_PartError.l0 k f (f.length:Int) i) r ∧ (r = 0 ↔ ∀ j:Int,i ≤ j → j < f.length → ElemOK (rd_T26 f j)):=by
 induction d with
 | zero =>
  intro i h0 h1 hd
  refine ⟨0,Ev.step (f:=fun _=>some 0) (fun k=>?_) (Ev.now 0),⟨fun _ j h2 h3=>by omega,fun _=>rfl⟩⟩
  simp only [chanceryref1_PartError.l0]
  rw [if_neg (by omega)]
 | succ d ih =>
  intro i h0 h1 hd
  have hlt:i < (f.length:Int):=by omega
  have hs1:=hs.1
  obtain ⟨e,he,hei⟩:=relem_ev (rd_T26 f i) (hs.2 _ (rdf_mem h0 hlt)).1
  obtain ⟨r,hr,hri⟩:=ih (i + 1) (by omega) (by omega) (by omega)
  by_cases hz:e = 0
  ·subst hz
   refine ⟨r,Ev.step (fun k=>by simp only [chanceryref1_PartError.l0];rw [if_pos hlt,if_pos h0,if_pos hlt,wrap_up h0 (by omega)]) (Ev.bind he (Ev.congr (fun k=>by rw [if_pos rfl]) hr)),hri.trans ⟨fun h j h2 h3=>?_,fun h j h2 h3=>h j (by omega) h3⟩⟩
   rcases Int.lt_or_eq_of_le h2 with h4 | h4
   ·exact h j (by omega) h3
   ·subst h4;exact hei.1 rfl
  ·refine ⟨e,Ev.step (fun k=>by simp only [chanceryref1_PartError.l0];rw [if_pos hlt,if_pos h0,if_pos hlt]) (Ev.bind he (Ev.congr (fun k=>by rw [if_neg hz]) (Ev.now e))),⟨fun h=>absurd h hz,fun h=>?_⟩⟩
   exact hei.2 (h i (Int.le_refl _) hlt)
theorem rpart_ev (f:List S26) (hs:FSmall f):∃ r:Int,Ev (fun k=>chanceryref1_PartError.f k f) r ∧ (r = 0 ↔ POK f):=rpart_l0 f hs f.length 0 (by omega) (by omega) (by omega)
theorem copy_l0 (f:List S26) (hs:FSmall f) (d:Nat):∀ (i:Nat),i + d = f.length → Ev (fun k=>flow_Copy.l0 k (f.take i ++ List.replicate (f.length - i) z26) f (f.length:Int) (i:Int)) f:=by
 induction d with
 | zero =>
  intro i hi
  refine Ev.step (f:=fun _=>some f) (fun k=>?_) (Ev.now f)
  simp only [flow_Copy.l0]
  rw [if_neg (by omega),show i = f.length by omega]
  simp
 | succ d ih =>
  intro i hi
  have hs1:=hs.1
  have hlt:(i:Int) < (f.length:Int):=by omega
  refine Ev.step (fun k=>?_) (ih (i + 1) (by omega))
  have hlen:(f.take i ++ List.replicate (f.length - i) z26).length = f.length:=by simp;omega
  have hx:rd_T26 f (i:Int) = f[i]'(by omega):=by
   simp [rd_T26,List.getD_eq_getElem?_getD,List.getElem?_eq_getElem (show i < f.length by omega)]
  have h2:=(hs.2 _ (rdf_mem (l:=f) (i:=(i:Int)) (by omega) hlt)).2
  simp only [flow_Copy.l0]
  rw [if_pos hlt,if_pos (by omega),if_pos hlt,if_pos (by simp;omega),if_pos (by rw [hlen];exact hlt),wrap_up (by omega) (by omega),show ((i:Int) + 1) = ((i + 1:Nat):Int) from by omega]
  have hset:(f.take i ++ List.replicate (f.length - i) z26).set (i:Int).toNat (⟨(rd_T26 f (i:Int)).f0,(rd_T26 f (i:Int)).f1,([]:List S91) ++ (rd_T26 f (i:Int)).f2⟩:S26) = f.take (i + 1) ++ List.replicate (f.length - (i + 1)) z26:=by
   rw [List.nil_append,Int.toNat_natCast]
   have hn:f.length - i = (f.length - (i + 1)) + 1:=by omega
   rw [hn,List.replicate_succ,List.set_append_right _ _ (by simp;omega)]
   have:i - (f.take i).length = 0:=by simp;omega
   have ht:f.take (i + 1) = f.take i ++ [f[i]'(by omega)]:=by
    rw [List.take_add_one,List.getElem?_eq_getElem (show i < f.length by omega)]
    rfl
   rw [this,List.set_cons_zero,hx,ht,List.append_assoc]
   rfl
  rw [hset]
theorem copy_ev (f:List S26) (hs:FSmall f):Ev (fun k=>flow_Copy.f k f) f:=by
 have hs1:=hs.1
 refine Ev.congr (fun k=>?_) (copy_l0 f hs f.length 0 (by omega))
 unfold flow_Copy.f
 rw [if_pos (by omega),if_pos (by omega)]
 simp
theorem same_attrs (l:List S91) (hs:l.length ≤ 1099511627776) (d:Nat):∀ i:Int,0 ≤ i → (l.length:Int) - i = d → Ev (fun k=>chanceryref1_SameAttrs.l0 k l l (l.length:Int) i) true:=by
 induction d with
 | zero =>
  intro i h0 hd
  refine Ev.step (f:=fun _=>some true) (fun k=>?_) (Ev.now true)
  simp only [chanceryref1_SameAttrs.l0]
  rw [if_neg (by omega)]
 | succ d ih =>
  intro i h0 hd
  refine Ev.step (fun k=>?_) (ih (i + 1) (by omega) (by omega))
  simp only [chanceryref1_SameAttrs.l0]
  rw [if_pos (by omega),if_pos h0,if_pos (by omega),if_pos (by omega),if_neg (by simp),wrap_up h0 (by omega)]
theorem same_attrs_ev (l:List S91) (hs:l.length ≤ 1099511627776):Ev (fun k=>chanceryref1_SameAttrs.f k l l) true :=
 Ev.congr (fun k=>by unfold chanceryref1_SameAttrs.f;rw [if_pos rfl]) (same_attrs l hs l.length 0 (by omega) (by omega))
theorem same_elem_ev (x:S26) (hs:Small x.f2):Ev (fun k=>chanceryref1_SameElem.f k x.f0 x.f1 x.f2 x.f0 x.f1 x.f2) true :=
 Ev.congr (fun k=>by unfold chanceryref1_SameElem.f;rw [if_pos rfl,if_pos rfl]) (Ev.bind (same_attrs_ev x.f2 hs.1) (Ev.now true))
theorem same_flow (f:List S26) (hs:FSmall f) (d:Nat):∀ i:Int,0 ≤ i → (f.length:Int) - i = d → Ev (fun k=>chanceryref1_SameFlow.l0 k f f (f.length:Int) i) true:=by
 have hs1:=hs.1
 induction d with
 | zero =>
  intro i h0 hd
  refine Ev.step (f:=fun _=>some true) (fun k=>?_) (Ev.now true)
  simp only [chanceryref1_SameFlow.l0]
  rw [if_neg (by omega)]
 | succ d ih =>
  intro i h0 hd
  have hlt:i < (f.length:Int):=by omega
  refine Ev.step (f:=fun k=>(chanceryref1_SameElem.f k (rd_T26 f i).f0 (rd_T26 f i).f1 (rd_T26 f i).f2 (rd_T26 f i).f0 (rd_T26 f i).f1 (rd_T26 f i).f2).bind fun t=>if t = true then chanceryref1_SameFlow.l0 k f f (f.length:Int) (wrap64 (i + 1)) else some false) (fun k=>?_)
   (Ev.bind (same_elem_ev (rd_T26 f i) (hs.2 _ (rdf_mem h0 hlt)).1) (Ev.congr (fun k=>?_) (ih (i + 1) (by omega) (by omega))))
  ·simp only [chanceryref1_SameFlow.l0]
   rw [if_pos hlt,if_pos h0,if_pos hlt,if_pos hlt]
  ·rw [if_pos rfl,wrap_up h0 (by omega)]
theorem same_flow_ev (f:List S26) (hs:FSmall f):Ev (fun k=>chanceryref1_SameFlow.f k f f) true :=
 Ev.congr (fun k=>by unfold chanceryref1_SameFlow.f;rw [if_pos rfl]) (same_flow f hs f.length 0 (by omega) (by omega))
abbrev Bs:=List UInt8
def look:List S91 → Bs → Option Bs
 | [],_=>none
 | x :: l,n=>if x.f0.toList = n then some x.f1.toList else look l n
theorem look_none {l:List S91} {n:Bs} (h:∀ x ∈ l,x.f0.toList ≠ n):look l n = none:=by
 induction l with
 | nil=>rfl
 | cons x l ih=>rw [look,if_neg (h x List.mem_cons_self),ih (fun y hy=>h y (List.mem_cons_of_mem _ hy))]
theorem look_above {l:List S91} {n:Bs} (h:∀ x ∈ l,Op.bytesLess n x.f0.toList = true):look l n = none :=
 look_none (fun x hx e=>by have:=h x hx;rw [e,Ord.less_irrefl] at this;cases this)
theorem look_mem {l:List S91} {x:S91} (hs:Srt l) (h:x ∈ l):look l x.f0.toList = some x.f1.toList:=by
 induction l with
 | nil=>cases h
 | cons y l ih =>
  obtain ⟨h1,h2⟩:=List.pairwise_cons.1 hs
  rcases List.mem_cons.1 h with rfl | h
  ·rw [look,if_pos rfl]
  ·rw [look,if_neg (fun e=>by have:=h1 x h;unfold ltS at this;rw [e,Ord.less_irrefl] at this;cases this),ih h2 h]
theorem look_some {l:List S91} {n v:Bs} (h:look l n = some v):∃ x ∈ l,x.f0.toList = n ∧ x.f1.toList = v:=by
 induction l with
 | nil=>cases h
 | cons y l ih =>
  rw [look] at h
  by_cases e:y.f0.toList = n
  ·rw [if_pos e] at h
   exact ⟨y,List.mem_cons_self,e,Option.some.inj h⟩
  ·rw [if_neg e] at h
   obtain ⟨x,hx,h1⟩:=ih h
   exact ⟨x,List.mem_cons_of_mem _ hx,h1⟩
theorem s91_ext {x y:S91} (h0:x.f0.toList = y.f0.toList) (h1:x.f1.toList = y.f1.toList):x = y:=by
 cases x;cases y
 cases ba_ext h0
 cases ba_ext h1
 rfl
theorem look_ext {l l':List S91} (h:Srt l) (h':Srt l') (e:∀ n,look l n = look l' n):l = l':=by
 induction l generalizing l' with
 | nil =>
  cases l' with
  | nil=>rfl
  | cons y t=>have:=e y.f0.toList;rw [look_mem h' List.mem_cons_self] at this;cases this
 | cons x t ih =>
  cases l' with
  | nil=>have:=e x.f0.toList;rw [look_mem h List.mem_cons_self] at this;cases this
  | cons y t' =>
   obtain ⟨h1,h2⟩:=List.pairwise_cons.1 h
   obtain ⟨h1',h2'⟩:=List.pairwise_cons.1 h'
   have hxy:x.f0.toList = y.f0.toList:=by
    refine Ord.less_total ?_ ?_
    ·cases hl:Op.bytesLess x.f0.toList y.f0.toList with
     | false=>rfl
     | true =>
      have:=e x.f0.toList
      rw [look_mem h List.mem_cons_self,look_above (l:=y :: t') (fun z hz=>by rcases List.mem_cons.1 hz with rfl | hz;exact hl;exact Ord.less_trans hl (h1' z hz))] at this
      cases this
    ·cases hl:Op.bytesLess y.f0.toList x.f0.toList with
     | false=>rfl
     | true =>
      have:=e y.f0.toList
      rw [look_mem h' List.mem_cons_self,look_above (l:=x :: t) (fun z hz=>by rcases List.mem_cons.1 hz with rfl | hz;exact hl;exact Ord.less_trans hl (h1 z hz))] at this
      cases this
   have hv:x.f1.toList = y.f1.toList:=by
    have:=e x.f0.toList
    rw [look_mem h List.mem_cons_self,hxy,look_mem h' List.mem_cons_self] at this
    exact Option.some.inj this
   rw [s91_ext hxy hv]
   congr 1
   refine ih h2 h2' (fun n=>?_)
   by_cases hn:x.f0.toList = n
   ·rw [look_above (l:=t) (fun z hz=>by rw [← hn];exact h1 z hz),look_above (l:=t') (fun z hz=>by rw [← hn,hxy];exact h1' z hz)]
   ·have:=e n
    rw [look,look,if_neg hn,if_neg (by rw [← hxy];exact hn)] at this
    exact this
def mrg (E:S91 → S91 → Option S91):List S91 → List S91 → List S91
 | [],[]=>[]
 | x :: a,[]=>(E x nil91).toList ++ mrg E a []
 | [],y :: b=>(E nil91 y).toList ++ mrg E [] b
 | x :: a,y :: b=>if ltS x y = true then (E x nil91).toList ++ mrg E a (y :: b) else if ltS y x = true then (E nil91 y).toList ++ mrg E (x :: a) b else (E x y).toList ++ mrg E a b
termination_by a b=>a.length + b.length
theorem bothL_mrg (V:List S91 → S91 → S91 → List S91) (E:S91 → S91 → Option S91) (h:∀ o x y,V o x y = o ++ (E x y).toList):∀ (a b o:List S91),bothL V o a b = o ++ mrg E a b:=by
 intro a b
 induction a,b using mrg.induct with
 | case1=>intro o;rw [bothL,mrg,List.append_nil]
 | case2 x a ih=>intro o;rw [bothL,mrg,ih,h];exact List.append_assoc _ _ _
 | case3 y b ih=>intro o;rw [bothL,mrg,ih,h];exact List.append_assoc _ _ _
 | case4 x a y b hlt ih=>intro o;rw [bothL,mrg,if_pos hlt,if_pos hlt,ih,h];exact List.append_assoc _ _ _
 | case5 x a y b hlt hlt' ih=>intro o;rw [bothL,mrg,if_neg hlt,if_neg hlt,if_pos hlt',if_pos hlt',ih,h];exact List.append_assoc _ _ _
 | case6 x a y b hlt hlt' ih=>intro o;rw [bothL,mrg,if_neg hlt,if_neg hlt,if_neg hlt',if_neg hlt',ih,h];exact List.append_assoc _ _ _
structure Tells (E:S91 → S91 → Option S91) (F:Option Bs → Option Bs → Option Bs):Prop where
 nil:F none none = none
 left:∀ x,x.f0.toList ≠ [] → (∀ z,E x nil91 = some z → z.f0 = x.f0) ∧ (E x nil91).map (·.f1.toList) = F (some x.f1.toList) none
 right:∀ y,y.f0.toList ≠ [] → (∀ z,E nil91 y = some z → z.f0 = y.f0) ∧ (E nil91 y).map (·.f1.toList) = F none (some y.f1.toList)
 mid:∀ x y,x.f0.toList = y.f0.toList → x.f0.toList ≠ [] → (∀ z,E x y = some z → z.f0 = x.f0) ∧ (E x y).map (·.f1.toList) = F (some x.f1.toList) (some y.f1.toList)
def Named (l:List S91):Prop:=∀ x ∈ l,x.f0.toList ≠ []
theorem look_opt {o:Option S91} {l:List S91} {n:Bs} {nm:ByteArray} {v:Option Bs} (h:∀ z,o = some z → z.f0 = nm) (hv:o.map (·.f1.toList) = v) (hl:look l nm.toList = Option.none) :
 look (o.toList ++ l) n = if nm.toList = n then v else look l n:=by
 cases o with
 | none =>
  have:v = Option.none:=hv.symm
  subst this
  by_cases e:nm.toList = n
  ·rw [if_pos e];show look l n = _;rw [← e];exact hl
  ·rw [if_neg e];rfl
 | some z =>
  have hz:=h z rfl
  have:v = some z.f1.toList:=hv.symm
  subst this
  show look (z :: l) n = _
  rw [look,hz]
theorem mrg_spec {E:S91 → S91 → Option S91} {F:Option Bs → Option Bs → Option Bs} (T:Tells E F):∀ (a b:List S91),Srt a → Srt b → Named a → Named b →
 Srt (mrg E a b) ∧ (∀ n,look (mrg E a b) n = F (look a n) (look b n)) ∧ (∀ z ∈ mrg E a b,(∃ x ∈ a,z.f0 = x.f0) ∨ (∃ y ∈ b,z.f0 = y.f0)):=by
 have step:∀ (o:Option S91) (l:List S91) (nm:ByteArray) (v:Option Bs),(∀ z,o = some z → z.f0 = nm) → (∀ z ∈ l,Op.bytesLess nm.toList z.f0.toList = true) → Srt l → Srt (o.toList ++ l):=by
  intro o l nm v h hl hs
  cases o with
  | none=>exact hs
  | some z =>
   refine List.Pairwise.cons (fun y hy=>?_) hs
   show Op.bytesLess z.f0.toList _ = true
   rw [h z rfl]
   exact hl y hy
 intro a b
 induction a,b using mrg.induct with
 | case1=>intro _ _ _ _;rw [mrg];exact ⟨List.Pairwise.nil,fun n=>T.nil.symm,fun z hz=>by cases hz⟩
 | case2 x a ih =>
  intro ha hb na nb
  obtain ⟨h1,h2⟩:=List.pairwise_cons.1 ha
  obtain ⟨i1,i2,i3⟩:=ih h2 hb (fun z hz=>na z (List.mem_cons_of_mem _ hz)) nb
  obtain ⟨e1,e2⟩:=T.left x (na x List.mem_cons_self)
  have hab:∀ z ∈ mrg E a [],Op.bytesLess x.f0.toList z.f0.toList = true:=fun z hz=>by
   rcases i3 z hz with ⟨u,hu,e⟩ | ⟨u,hu,e⟩
   ·rw [e];exact h1 u hu
   ·cases hu
  rw [mrg]
  refine ⟨step _ _ x.f0 none e1 hab i1,fun n=>?_,fun z hz=>?_⟩
  ·rw [look_opt e1 e2 (look_above hab),i2 n]
   by_cases e:x.f0.toList = n
   ·rw [if_pos e,show look (x :: a) n = some x.f1.toList by rw [look,if_pos e]];rfl
   ·rw [if_neg e,show look (x :: a) n = look a n by rw [look,if_neg e]]
  ·rcases List.mem_append.1 hz with hz | hz
   ·exact .inl ⟨x,List.mem_cons_self,e1 z (by simpa using hz)⟩
   ·rcases i3 z hz with ⟨u,hu,e⟩ | h
    ·exact .inl ⟨u,List.mem_cons_of_mem _ hu,e⟩
    ·exact .inr h
 | case3 y b ih =>
  intro ha hb na nb
  obtain ⟨h1,h2⟩:=List.pairwise_cons.1 hb
  obtain ⟨i1,i2,i3⟩:=ih ha h2 na (fun z hz=>nb z (List.mem_cons_of_mem _ hz))
  obtain ⟨e1,e2⟩:=T.right y (nb y List.mem_cons_self)
  have hab:∀ z ∈ mrg E [] b,Op.bytesLess y.f0.toList z.f0.toList = true:=fun z hz=>by
   rcases i3 z hz with ⟨u,hu,e⟩ | ⟨u,hu,e⟩
   ·cases hu
   ·rw [e];exact h1 u hu
  rw [mrg]
  refine ⟨step _ _ y.f0 none e1 hab i1,fun n=>?_,fun z hz=>?_⟩
  ·rw [look_opt e1 e2 (look_above hab),i2 n]
   by_cases e:y.f0.toList = n
   ·rw [if_pos e,show look (y :: b) n = some y.f1.toList by rw [look,if_pos e]];rfl
   ·rw [if_neg e,show look (y :: b) n = look b n by rw [look,if_neg e]]
  ·rcases List.mem_append.1 hz with hz | hz
   ·exact .inr ⟨y,List.mem_cons_self,e1 z (by simpa using hz)⟩
   ·rcases i3 z hz with h | ⟨u,hu,e⟩
    ·exact .inl h
    ·exact .inr ⟨u,List.mem_cons_of_mem _ hu,e⟩
 | case4 x a y b hlt ih =>
  intro ha hb na nb
  obtain ⟨h1,h2⟩:=List.pairwise_cons.1 ha
  obtain ⟨h1',h2'⟩:=List.pairwise_cons.1 hb
  obtain ⟨i1,i2,i3⟩:=ih h2 hb (fun z hz=>na z (List.mem_cons_of_mem _ hz)) nb
  obtain ⟨e1,e2⟩:=T.left x (na x List.mem_cons_self)
  have hyb:∀ z ∈ y :: b,Op.bytesLess x.f0.toList z.f0.toList = true:=fun z hz=>by
   rcases List.mem_cons.1 hz with rfl | hz
   ·exact hlt
   ·exact Ord.less_trans hlt (h1' z hz)
  have hab:∀ z ∈ mrg E a (y :: b),Op.bytesLess x.f0.toList z.f0.toList = true:=fun z hz=>by
   rcases i3 z hz with ⟨u,hu,e⟩ | ⟨u,hu,e⟩
   ·rw [e];exact h1 u hu
   ·rw [e];exact hyb u hu
  rw [mrg,if_pos hlt]
  refine ⟨step _ _ x.f0 none e1 hab i1,fun n=>?_,fun z hz=>?_⟩
  ·rw [look_opt e1 e2 (look_above hab),i2 n]
   by_cases e:x.f0.toList = n
   ·rw [if_pos e]
    rw [show look (x :: a) n = some x.f1.toList by rw [look,if_pos e],look_above (l:=y :: b) (by rw [← e];exact hyb)]
   ·rw [if_neg e]
    rw [show look (x :: a) n = look a n by rw [look,if_neg e]]
  ·rcases List.mem_append.1 hz with hz | hz
   ·exact .inl ⟨x,List.mem_cons_self,e1 z (by simpa using hz)⟩
   ·rcases i3 z hz with ⟨u,hu,e⟩ | h
    ·exact .inl ⟨u,List.mem_cons_of_mem _ hu,e⟩
    ·exact .inr h
 | case5 x a y b hlt hlt' ih =>
  intro ha hb na nb
  obtain ⟨h1,h2⟩:=List.pairwise_cons.1 ha
  obtain ⟨h1',h2'⟩:=List.pairwise_cons.1 hb
  obtain ⟨i1,i2,i3⟩:=ih ha h2' na (fun z hz=>nb z (List.mem_cons_of_mem _ hz))
  obtain ⟨e1,e2⟩:=T.right y (nb y List.mem_cons_self)
  have hxa:∀ z ∈ x :: a,Op.bytesLess y.f0.toList z.f0.toList = true:=fun z hz=>by
   rcases List.mem_cons.1 hz with rfl | hz
   ·exact hlt'
   ·exact Ord.less_trans hlt' (h1 z hz)
  have hab:∀ z ∈ mrg E (x :: a) b,Op.bytesLess y.f0.toList z.f0.toList = true:=fun z hz=>by
   rcases i3 z hz with ⟨u,hu,e⟩ | ⟨u,hu,e⟩
   ·rw [e];exact hxa u hu
   ·rw [e];exact h1' u hu
  rw [mrg,if_neg hlt,if_pos hlt']
  refine ⟨step _ _ y.f0 none e1 hab i1,fun n=>?_,fun z hz=>?_⟩
  ·rw [look_opt e1 e2 (look_above hab),i2 n]
   by_cases e:y.f0.toList = n
   ·rw [if_pos e]
    rw [show look (y :: b) n = some y.f1.toList by rw [look,if_pos e],look_above (l:=x :: a) (by rw [← e];exact hxa)]
   ·rw [if_neg e]
    rw [show look (y :: b) n = look b n by rw [look,if_neg e]]
  ·rcases List.mem_append.1 hz with hz | hz
   ·exact .inr ⟨y,List.mem_cons_self,e1 z (by simpa using hz)⟩
   ·rcases i3 z hz with h | ⟨u,hu,e⟩
    ·exact .inl h
    ·exact .inr ⟨u,List.mem_cons_of_mem _ hu,e⟩
 | case6 x a y b hlt hlt' ih =>
  intro ha hb na nb
  obtain ⟨h1,h2⟩:=List.pairwise_cons.1 ha
  obtain ⟨h1',h2'⟩:=List.pairwise_cons.1 hb
  obtain ⟨i1,i2,i3⟩:=ih h2 h2' (fun z hz=>na z (List.mem_cons_of_mem _ hz)) (fun z hz=>nb z (List.mem_cons_of_mem _ hz))
  have hxy:x.f0.toList = y.f0.toList:=Ord.less_total (Bool.eq_false_iff.2 hlt) (Bool.eq_false_iff.2 hlt')
  obtain ⟨e1,e2⟩:=T.mid x y hxy (na x List.mem_cons_self)
  have hab:∀ z ∈ mrg E a b,Op.bytesLess x.f0.toList z.f0.toList = true:=fun z hz=>by
   rcases i3 z hz with ⟨u,hu,e⟩ | ⟨u,hu,e⟩
   ·rw [e];exact h1 u hu
   ·rw [e,hxy];exact h1' u hu
  rw [mrg,if_neg hlt,if_neg hlt']
  refine ⟨step _ _ x.f0 none e1 hab i1,fun n=>?_,fun z hz=>?_⟩
  ·rw [look_opt e1 e2 (look_above hab),i2 n,look,look,← hxy]
   by_cases e:x.f0.toList = n
   ·rw [if_pos e,if_pos e,if_pos e]
   ·rw [if_neg e,if_neg e,if_neg e]
  ·rcases List.mem_append.1 hz with hz | hz
   ·exact .inl ⟨x,List.mem_cons_self,e1 z (by simpa using hz)⟩
   ·rcases i3 z hz with ⟨u,hu,e⟩ | ⟨u,hu,e⟩
    ·exact .inl ⟨u,List.mem_cons_of_mem _ hu,e⟩
    ·exact .inr ⟨u,List.mem_cons_of_mem _ hu,e⟩
theorem mrg_len (E:S91 → S91 → Option S91):∀ a b:List S91,(mrg E a b).length ≤ a.length + b.length:=by
 have o1:∀ o:Option S91,o.toList.length ≤ 1:=fun o=>by cases o <;> simp
 intro a b
 induction a,b using mrg.induct with
 | case1=>rw [mrg];simp
 | case2 x a ih=>rw [mrg,List.length_append];have:=o1 (E x nil91);simp only [List.length_cons,List.length_nil] at *;omega
 | case3 y b ih=>rw [mrg,List.length_append];have:=o1 (E nil91 y);simp only [List.length_cons,List.length_nil] at *;omega
 | case4 x a y b hlt ih=>rw [mrg,if_pos hlt,List.length_append];have:=o1 (E x nil91);simp only [List.length_cons,List.length_nil] at *;omega
 | case5 x a y b hlt hlt' ih=>rw [mrg,if_neg hlt,if_pos hlt',List.length_append];have:=o1 (E nil91 y);simp only [List.length_cons,List.length_nil] at *;omega
 | case6 x a y b hlt hlt' ih=>rw [mrg,if_neg hlt,if_neg hlt',List.length_append];have:=o1 (E x y);simp only [List.length_cons] at *;omega
def rawE (x y:S91):Option S91:=if y.f0.toList = [] then some x else if y.f1.toList = [] then none else some y
def changeE (x y:S91):Option S91:=if y.f0.toList = [] then some ⟨x.f0,⟨#[]⟩⟩ else if x.f0.toList = y.f0.toList ∧ x.f1.toList = y.f1.toList then none else some y
def Fr:Option Bs → Option Bs → Option Bs
 | u,none=>u
 | _,some v=>if v = [] then none else some v
def Fc:Option Bs → Option Bs → Option Bs
 | none,v=>v
 | some _,none=>some []
 | some u,some v=>if u = v then none else some v
theorem nil_name:nil91.f0.toList = []:=list_nil.2 rfl
theorem nil_list:(⟨#[]⟩:ByteArray).toList = []:=list_nil.2 rfl
theorem raw_tells:Tells rawE Fr where
 nil:=rfl
 left x hx:=by
  have:rawE x nil91 = some x:=by unfold rawE;rw [if_pos nil_name]
  rw [this]
  exact ⟨fun z hz=>by rw [Option.some.inj hz],rfl⟩
 right y hy:=by
  unfold rawE Fr
  rw [if_neg hy]
  by_cases e:y.f1.toList = []
  ·rw [if_pos e];exact ⟨(fun z hz=>by cases hz),by simp [e]⟩
  ·rw [if_neg e];exact ⟨(fun z hz=>by rw [Option.some.inj hz]),by simp [e]⟩
 mid x y h hx:=by
  unfold rawE Fr
  rw [if_neg (by rw [← h];exact hx)]
  by_cases e:y.f1.toList = []
  ·rw [if_pos e];exact ⟨(fun z hz=>by cases hz),by simp [e]⟩
  ·rw [if_neg e];exact ⟨(fun z hz=>by rw [← Option.some.inj hz];exact (ba_ext h).symm),by simp [e]⟩
theorem change_tells:Tells changeE Fc where
 nil:=rfl
 left x hx:=by
  unfold changeE
  rw [if_pos nil_name]
  exact ⟨(fun z hz=>by rw [← Option.some.inj hz]),by simp [Fc]⟩
 right y hy:=by
  unfold changeE
  rw [if_neg hy,if_neg (fun h=>hy (by rw [← h.1];exact nil_name))]
  exact ⟨(fun z hz=>by rw [Option.some.inj hz]),rfl⟩
 mid x y h hx:=by
  unfold changeE Fc
  rw [if_neg (by rw [← h];exact hx)]
  by_cases e:x.f1.toList = y.f1.toList
  ·rw [if_pos ⟨h,e⟩];exact ⟨(fun z hz=>by cases hz),by simp [e]⟩
  ·rw [if_neg (fun h'=>e h'.2)];exact ⟨(fun z hz=>by rw [← Option.some.inj hz];exact (ba_ext h).symm),by simp [e]⟩
def VL (ch:Bool) (w:Bs):Prop:=∃ s:ByteArray,s.toList = w ∧ (ValOK s ∨ (ch = true ∧ s.size = 0))
def OV (ch:Bool) (u:Option Bs):Prop:=∀ w,u = some w → VL ch w
theorem VL.ne {w:Bs} (h:VL false w):w ≠ []:=by
 obtain ⟨s,rfl,h | ⟨h,_⟩⟩:=h
 ·intro e;have:=list_nil.1 e;have:=h.1;omega
 ·cases h
theorem VL.mono {ch:Bool} {w:Bs} (h:VL false w):VL ch w:=by
 obtain ⟨s,e,h | ⟨h,_⟩⟩:=h
 ·exact ⟨s,e,.inl h⟩
 ·cases h
theorem VL.strict {ch:Bool} {w:Bs} (h:VL ch w) (hw:w ≠ []):VL false w:=by
 obtain ⟨s,e,h | ⟨_,h⟩⟩:=h
 ·exact ⟨s,e,.inl h⟩
 ·exact absurd (e ▸ list_nil.2 h) hw
theorem ov_look {ch:Bool} {l:List S91} (h:VA ch l) (n:Bs):OV ch (look l n):=by
 intro w hw
 obtain ⟨x,hx,_,e⟩:=look_some hw
 exact ⟨x.f1,e,(h.1 x hx).2⟩
theorem va_named {ch:Bool} {l:List S91} (h:VA ch l):Named l:=fun x hx e=>by
 have:=(h.1 x hx).1.1
 have:=list_nil.1 e
 omega
theorem va_mrg {E:S91 → S91 → Option S91} {F:Option Bs → Option Bs → Option Bs} (T:Tells E F) {c1 c2 ch:Bool} {a b:List S91} (ha:VA c1 a) (hb:VA c2 b)
 (hF:∀ u v,OV c1 u → OV c2 v → OV ch (F u v)):VA ch (mrg E a b):=by
 obtain ⟨h1,h2,h3⟩:=mrg_spec T a b ha.2 hb.2 (va_named ha) (va_named hb)
 refine ⟨fun z hz=>⟨?_,?_⟩,h1⟩
 ·rcases h3 z hz with ⟨x,hx,e⟩ | ⟨x,hx,e⟩
  ·rw [e];exact (ha.1 x hx).1
  ·rw [e];exact (hb.1 x hx).1
 ·have:=look_mem h1 hz
  rw [h2] at this
  obtain ⟨s,hs,hv⟩:=hF _ _ (ov_look ha _) (ov_look hb _) _ this
  rw [← ba_ext hs]
  exact hv
theorem ov_raw {c:Bool} {u v:Option Bs} (hu:OV false u) (hv:OV c v):OV false (Fr u v):=by
 intro w hw
 cases v with
 | none=>exact hu w hw
 | some v =>
  simp only [Fr] at hw
  by_cases e:v = []
  ·rw [if_pos e] at hw;cases hw
  ·rw [if_neg e] at hw
   obtain rfl:=Option.some.inj hw
   exact (hv v rfl).strict e
theorem ov_change {u v:Option Bs} (hu:OV false u) (hv:OV false v):OV true (Fc u v):=by
 intro w hw
 cases u with
 | none=>exact (hv w hw).mono
 | some u =>
  cases v with
  | none =>
   obtain rfl:=Option.some.inj hw
   exact ⟨⟨#[]⟩,nil_list,.inr ⟨rfl,rfl⟩⟩
  | some v =>
   simp only [Fc] at hw
   by_cases e:u = v
   ·rw [if_pos e] at hw;cases hw
   ·rw [if_neg e] at hw
    obtain rfl:=Option.some.inj hw
    exact (hv v rfl).mono
theorem fr_fc {M L:Option Bs} (hL:OV false L):Fr M (Fc M L) = L:=by
 cases L with
 | none=>cases M <;> rfl
 | some v =>
  have hv:=(hL v rfl).ne
  cases M with
  | none=>simp only [Fc,Fr];rw [if_neg hv]
  | some u =>
   simp only [Fc]
   by_cases e:u = v
   ·rw [if_pos e,e];rfl
   ·rw [if_neg e];simp only [Fr];rw [if_neg hv]
theorem fold_mrg {V:List S91 → S91 → S91 → List S91} {E:S91 → S91 → Option S91} (h:∀ o x y,V o x y = o ++ (E x y).toList) (a b:List S91):bothL V [] a b = mrg E a b:=by rw [bothL_mrg V E h,List.nil_append]
theorem rawV_E (o:List S91) (x y:S91):rawV o x y = o ++ (rawE x y).toList:=by
 unfold rawV rawE
 by_cases h1:y.f0.toList = []
 ·rw [if_pos h1,if_pos h1];rfl
 ·rw [if_neg h1,if_neg h1]
  by_cases h2:y.f1.toList = []
  ·rw [if_pos h2,if_pos h2];exact (List.append_nil _).symm
  ·rw [if_neg h2,if_neg h2];rfl
theorem changeV_E (o:List S91) (x y:S91):changeV o x y = o ++ (changeE x y).toList:=by
 unfold changeV changeE
 by_cases h1:y.f0.toList = []
 ·rw [if_pos h1,if_pos h1];rfl
 ·rw [if_neg h1,if_neg h1]
  by_cases h2:x.f0.toList = y.f0.toList ∧ x.f1.toList = y.f1.toList
  ·rw [if_pos h2,if_pos h2];exact (List.append_nil _).symm
  ·rw [if_neg h2,if_neg h2];rfl
theorem raw_f {a b:List S91} (ha:a.length ≤ 1073741824) (hb:b.length ≤ 1073741824):attr_Raw.f a b = some (mrg rawE a b):=by
 unfold attr_Raw.f;rw [if_pos (by omega),fold_mrg rawV_E]
theorem change_f {a b:List S91} (ha:a.length ≤ 1073741824) (hb:b.length ≤ 1073741824):attr_Change.f a b = some (mrg changeE a b):=by
 unfold attr_Change.f;rw [if_pos (by omega),fold_mrg changeV_E]
theorem va_raw {l c:List S91} (vl:VA false l) (vc:VA true c):VA false (mrg rawE l c):=va_mrg raw_tells vl vc (fun _ _=>ov_raw)
theorem va_change {a b:List S91} (va:VA false a) (vb:VA false b):VA true (mrg changeE a b):=va_mrg change_tells va vb (fun _ _=>ov_change)
theorem look_raw {l c:List S91} (vl:VA false l) (vc:VA true c) (n:Bs):look (mrg rawE l c) n = Fr (look l n) (look c n):=(mrg_spec raw_tells l c vl.2 vc.2 (va_named vl) (va_named vc)).2.1 n
theorem look_change {a b:List S91} (va:VA false a) (vb:VA false b) (n:Bs):look (mrg changeE a b) n = Fc (look a n) (look b n):=(mrg_spec change_tells a b va.2 vb.2 (va_named va) (va_named vb)).2.1 n
theorem lead_back {m l:List S91} (vm:VA false m) (vl:VA false l):mrg rawE m (mrg changeE m l) = l :=
 look_ext (va_raw vm (va_change vm vl)).2 vl.2 (fun n=>by rw [look_raw vm (va_change vm vl),look_change vm vl,fr_fc (ov_look vl n)])
structure Moves2 (wI w:World) (g:Nat) (vI uI v u:Value):Prop where
 size:wI.heap.size ≤ w.heap.size
 frame:∀ k,k < wI.heap.size → k ≠ g → some k ≠ vI.ownBlock → some k ≠ uI.ownBlock → w.heap[k]? = wI.heap[k]?
 ownv:v.ownBlock = vI.ownBlock ∨ ∃ b,v.ownBlock = some b ∧ wI.heap.size ≤ b
 ownu:u.ownBlock = uI.ownBlock ∨ u.ownBlock = none ∨ ∃ b,u.ownBlock = some b ∧ wI.heap.size ≤ b
theorem Moves2.refl (w:World) (g:Nat) (v u:Value):Moves2 w w g v u v u:=⟨Nat.le_refl _,fun _ _ _ _ _=>rfl,.inl rfl,.inl rfl⟩
structure WrO (ok:Nat → Prop) (w0 wI:World) (g:Nat) (vI uI:Value) (out:List S95) (cut:Int) (v u:Value) (w:World):Prop where
 ge:w0.heap.size ≤ g
 blk:w.heap[g]? = some (.cells #[v,u,.int .i64 cut] 193 (0,0))
 row:Kd.N k95 95 w w0.heap.size (fun k=>ok k ∧ k ≠ g) v out
 bel:Below w0.heap.size w0 w
 mv:Moves2 wI w g vI uI v u
structure WrD (ok:Nat → Prop) (w0 wI:World) (g:Nat) (vI uI:Value) (out:List S95) (add:List S26) (cut:Int) (v u:Value) (w:World):Prop where
 ge:w0.heap.size ≤ g
 blk:w.heap[g]? = some (.cells #[v,u,.int .i64 cut] 193 (0,0))
 row:Kd.N k95 95 w w0.heap.size (fun k=>(ok k ∧ k ≠ g) ∧ some k ≠ u.ownBlock) v out
 radd:Kd.N k26 26 w w0.heap.size (fun k=>(ok k ∧ k ≠ g) ∧ some k ≠ v.ownBlock) u add
 bel:Below w0.heap.size w0 w
 mv:Moves2 wI w g vI uI v u
section
variable {ok:Nat → Prop} {w0 wI w w1:World} {g:Nat} {vI uI v u v1 u1:Value} {out out':List S95} {add add':List S26} {cut:Int}
theorem WrD.weak (h:WrD ok w0 wI g vI uI out add cut v u w):WrO ok w0 wI g vI uI out cut v u w:=⟨h.ge,h.blk,Kd.N_mono h.row (fun _ hk=>hk.1),h.bel,h.mv⟩
theorem WrO.drew (h:WrO ok w0 wI g vI uI out cut v u w):WrO ok w0 wI g vI uI out cut v u w.drew :=
 ⟨h.ge,blk_drew h.blk,Kd.N_drew h.row,below_drew1 h.bel,⟨h.mv.size,h.mv.frame,h.mv.ownv,h.mv.ownu⟩⟩
theorem WrD.drew (h:WrD ok w0 wI g vI uI out add cut v u w):WrD ok w0 wI g vI uI out add cut v u w.drew :=
 ⟨h.ge,blk_drew h.blk,Kd.N_drew h.row,Kd.N_drew h.radd,below_drew1 h.bel,⟨h.mv.size,h.mv.frame,h.mv.ownv,h.mv.ownu⟩⟩
theorem WrD.drewN (h:WrD ok w0 wI g vI uI out add cut v u w) (n:Nat):WrD ok w0 wI g vI uI out add cut v u (w.drewN n) :=
 ⟨h.ge,blk_drewN h.blk n,Kd.N_drewN h.row n,Kd.N_drewN h.radd n,pw_below_drewN h.bel n,⟨h.mv.size,h.mv.frame,h.mv.ownv,h.mv.ownu⟩⟩
theorem mv_set (h:Moves2 wI w g vI uI v u) (j:Nat) (x:Value):Moves2 wI (w.setCell ⟨g,j,none⟩ x) g vI uI v u :=
 ⟨by have:=h.size;simp [World.setCell];omega,fun k hk hgk hv hu=>by rw [Below.heap_setCell _ _ _ _ hgk,h.frame k hk hgk hv hu],h.ownv,h.ownu⟩
theorem mv_app (h:Moves2 wI w g vI uI v u) (hg:w.grownBy w1 v.ownBlock) (hat:v1.ownBlock = v.ownBlock ∨ ∃ b,v1.ownBlock = some b ∧ w.heap.size ≤ b):Moves2 wI w1 g vI uI v1 u:=by
 refine ⟨Nat.le_trans h.size hg.size,fun k hk hgk hv hu=>?_,?_,h.ownu⟩
 ·rw [hg.block k (Nat.lt_of_lt_of_le hk h.size) ?_,h.frame k hk hgk hv hu]
  rcases h.ownv with e | ⟨b,e,hb⟩
  ·rw [e];exact hv
  ·rw [e];intro h';injection h' with h';omega
 ·rcases hat with e | ⟨b,e,hb⟩
  ·rw [e];exact h.ownv
  ·exact .inr ⟨b,e,Nat.le_trans h.size hb⟩
theorem WrO.app (h:WrO ok w0 wI g vI uI out cut v u w) (hR:Kd.N k95 95 w1 w0.heap.size (fun k=>ok k ∧ k ≠ g) v1 out') (hB:Below w0.heap.size w0 w1) (hg:w.grownBy w1 v.ownBlock)
 (hat:v1.ownBlock = v.ownBlock ∨ ∃ b,v1.ownBlock = some b ∧ w.heap.size ≤ b) :
 w1.heap[g]? = some (.cells #[v,u,.int .i64 cut] 193 (0,0)) ∧ WrO ok w0 wI g vI uI out' cut v1 u (w1.setCell ⟨g,0,none⟩ v1):=by
 have hb:=blk_grown h.blk hg (Kd.N_away h.row (fun _ hk=>hk.2))
 exact ⟨hb,h.ge,blk_put hb 0 v1 rfl,Kd.N_far hR (fun _ hk=>hk.2) v1,below_set hB h.ge,mv_set (mv_app h.mv hg hat) 0 v1⟩
theorem WrO.clear (h:WrO ok w0 wI g vI uI out cut v u w):WrD ok w0 wI g vI uI out [] 0 v (.slice none 0 0) ((w.setCell ⟨g,1,none⟩ (.slice none 0 0)).setCell ⟨g,2,none⟩ (.int .i64 0)):=by
 refine ⟨h.ge,blk_put (blk_put h.blk 1 (.slice none 0 0) rfl) 2 (.int .i64 0) rfl,Kd.N_mono (Kd.N_far (Kd.N_far h.row (fun _ hk=>hk.2) _) (fun _ hk=>hk.2) _) (fun k hk=>⟨hk,by simp [Value.ownBlock]⟩),Kd.N_nil _ _ _ _ _,below_set (below_set h.bel h.ge) h.ge,?_⟩
 have m:=mv_set (mv_set h.mv 1 (.slice none 0 0)) 2 (.int .i64 0)
 exact ⟨m.size,m.frame,m.ownv,.inr (.inl rfl)⟩
end
def addD (out:List S95) (add:List S26):List S95:=if 0 < add.length then out ++ [⟨1,0,[],add⟩] else out
def cutD (out:List S95) (cut:Int):List S95:=if 0 < cut then out ++ [⟨2,cut,[],[]⟩] else out
def flushD (out:List S95) (add:List S26) (cut:Int):List S95:=cutD (addD out add) cut
set_option maxRecDepth 100000 in
set_option maxHeartbeats 8000000 in
theorem flush_calls (ok:Nat → Prop) (w0:World) (g:Nat) (out:List S95) (add:List S26) (cut:Int) (vI uI:Value) (w:World) (h:WrD ok w0 w g vI uI out add cut vI uI w) (hok:∀ k,w.heap.size ≤ k → ok k) (hl:(out.length + 2) * 64 ≤ 140737488355328) :
 Calls Try.prog 158 #[.pointer (some ⟨g,0,none⟩)] w fun e w'=>e = .returned (.tuple #[]) ∧ ∃ v,WrD ok w0 w g vI uI (flushD out add cut) [] 0 v (.slice none 0 0) w':=by
 have hu95:=Try.underlying95
 have hu193:=Try.underlying193
 obtain ⟨AI,cI,hvI⟩:=Kd.N_slice h.row
 obtain ⟨BI,dI,huI⟩:=Kd.N_slice h.radd
 subst hvI
 subst huI
 have HS:=Aside0.mk h
 have HO:=Aside0.mk hok
 have HL:=Aside0.mk hl
 clear h hok hl
 obtain ⟨ta,hta⟩:∃ t:Bool,decide (0 < (add.length:Int)) = t:=⟨_,rfl⟩
 have hta2:decide (0 < add.length) = ta:=by rw [← hta];exact decide_eq_decide.mpr (by omega)
 have hc0:w.cell? ⟨g,0,none⟩ = some (.slice AI out.length cI):=(blk_cell HS.out.blk 0).trans rfl
 have hc1:w.cell? ⟨g,1,none⟩ = some (.slice BI add.length dI):=(blk_cell HS.out.blk 1).trans rfl
 have hc2:w.cell? ⟨g,2,none⟩ = some (.int .i64 cut):=(blk_cell HS.out.blk 2).trans rfl
 go_enter Try.func158,Try.ntmps158
 go_upto_if 7 with (fail)
 go_cut [] (fun wc=>∃ (A1:Option Addr) (n1:Nat),Aside0 (WrO ok w0 w g (.slice AI out.length cI) (.slice BI add.length dI) (addD out add) cut (.slice A1 (addD out add).length n1) (.slice BI add.length dI) wc))
 case first =>
  cases ta with
  | false =>
   have hadd:=of_decide_eq_false hta2
   have e:addD out add = out:=if_neg hadd
   go_wp2
   go_meet
   case rel=>exact ⟨AI,cI,⟨by rw [e];exact HS.out.weak⟩⟩
  | true =>
   have hadd:=of_decide_eq_true hta2
   have e:addD out add = out ++ [⟨1,0,[],add⟩]:=if_pos hadd
   have HE:=Aside0.mk e
   clear hadd e
   have HD:=Aside0.mk HS.out.drew
   have HDO:=Aside0.mk HS.out.weak.drew
   go_upto_region 1 with (fail)
   refine start_ (n:=15) (S:=fun w'=>w'.cell? ⟨g,0,none⟩ = some (.slice AI out.length cI) ∧ w'.cell? ⟨g,1,none⟩ = some (.slice BI add.length dI)) (ds:=[14]) #[false,false,false,false,false,false,false,false,false,false,false,false,false,false,false] (by kernel_rfl) rfl rfl ⟨((blk_cell HD.out.blk 0).trans rfl),((blk_cell HD.out.blk 1).trans rfl)⟩ (fun hHeld=>?_)
   refine pure_ (i:=0) (N:=some 8) (v:=?_) (a':=?_) (bm 1 15) rfl rfl (by kernel_rfl) (fun _ _ _ h=>h) (Or.inl ⟨by rfl,?_⟩) ?_ ?_
   rotate_left
   ·intro w'
    go_simp
    with_reducible rfl
   rotate_left
   ·simp only [Act.put,sA,sB,sC,i64_w,i32_w]
    rfl
   refine pure_ (i:=1) (N:=some 9) (v:=?_) (a':=?_) (bm 3 15) rfl rfl (by kernel_rfl) (fun _ _ _ h=>h) (Or.inl ⟨by rfl,?_⟩) ?_ ?_
   rotate_left
   ·intro w'
    go_simp
    with_reducible rfl
   rotate_left
   ·simp only [Act.put,sA,sB,sC,i64_w,i32_w]
    rfl
   refine pure_ (i:=2) (N:=some 10) (v:=?_) (a':=?_) (bm 7 15) rfl rfl (by kernel_rfl) (fun _ _ _ h=>h) (Or.inl ⟨by rfl,?_⟩) ?_ ?_
   rotate_left
   ·intro w'
    go_simp
    with_reducible rfl
   rotate_left
   ·simp only [Act.put,sA,sB,sC,i64_w,i32_w]
    rfl
   refine pure_ (i:=3) (N:=some 11) (v:=?_) (a':=?_) (bm 15 15) rfl rfl (by kernel_rfl) (fun _ _ _ h=>h) (Or.inl ⟨by rfl,?_⟩) ?_ ?_
   rotate_left
   ·intro w'
    go_simp
    with_reducible rfl
   rotate_left
   ·simp only [Act.put,sA,sB,sC,i64_w,i32_w]
    rfl
   refine pure_ (i:=5) (N:=some 13) (v:=?_) (a':=?_) (bm 47 15) rfl rfl (by kernel_rfl) (fun _ _ _ h=>h) (Or.inl ⟨by rfl,?_⟩) ?_ ?_
   rotate_left
   ·intro w'
    go_simp
    with_reducible rfl
   rotate_left
   ·simp only [Act.put,sA,sB,sC,i64_w,i32_w]
    rfl
   refine pure_ (i:=6) (N:=some 14) (v:=?_) (a':=?_) (bm 111 15) rfl rfl (by kernel_rfl) (fun _ _ _ h=>h) (Or.inl ⟨by rfl,?_⟩) ?_ ?_
   rotate_left
   ·intro w'
    go_simp
    with_reducible rfl
   rotate_left
   ·simp only [Act.put,sA,sB,sC,i64_w,i32_w]
    rfl
   refine pure_ (i:=7) (N:=some 15) (v:=?_) (a':=?_) (bm 239 15) rfl rfl (by kernel_rfl) (fun _ _ _ h=>h) (Or.inl ⟨by rfl,?_⟩) ?_ ?_
   rotate_left
   ·intro w'
    go_simp
    with_reducible rfl
   rotate_left
   ·simp only [Act.put,sA,sB,sC,i64_w,i32_w]
    rfl
   refine take_ (i:=4) (N:=some 12) (v:=?_) (a':=?_) (bm 255 15) rfl rfl (by kernel_rfl) (fun _ _ _ h=>h) (Or.inl ⟨by rfl,?_⟩) hHeld ?_ ?_
   rotate_left
   ·rintro w' ⟨s0,s1⟩
    go_simp
    with_reducible rfl
   rotate_left
   ·simp only [Act.put,sA,sB,sC,i64_w,i32_w]
    rfl
   refine take_ (i:=8) (N:=some 16) (v:=?_) (a':=?_) (bm 511 15) rfl rfl (by kernel_rfl) (fun _ _ _ h=>h) (Or.inl ⟨by rfl,?_⟩) hHeld ?_ ?_
   rotate_left
   ·rintro w' ⟨s0,s1⟩
    go_simp
    with_reducible rfl
   rotate_left
   ·simp only [Act.put,sA,sB,sC,i64_w,i32_w]
    rfl
   refine pure_ (i:=9) (N:=some 17) (v:=?_) (a':=?_) (bm 1023 15) rfl rfl (by kernel_rfl) (fun _ _ _ h=>h) (Or.inl ⟨by rfl,?_⟩) ?_ ?_
   rotate_left
   ·intro w'
    go_simp
    with_reducible rfl
   rotate_left
   ·simp only [Act.put,sA,sB,sC,i64_w,i32_w]
    rfl
   refine one_ (i:=10) (N:=some 18) (bm 2047 15) rfl rfl (by kernel_rfl) (by decide) (fun K hK=>?_)
   refine value_ (w1:=?_) (v:=?_) (by rfl) rfl ?_ ?_
   rotate_left 2
   ·go_simp
    constructor
    ·rfl
    ·rfl
   refine hK.out _ _ ⟨((blk_cell (blk_alloc HD.out.blk _) 0).trans rfl),((blk_cell (blk_alloc HD.out.blk _) 1).trans rfl)⟩ (fun hHeld=>?_)
   clear hK K
   refine norm_ (a':=?_) ?_ ?_
   rotate_left
   ·show Act.put _ (some 18) _ = _
    simp only [Act.put,sA,sB,sC,i64_w,i32_w]
    rfl
   refine one_ (i:=11) (N:=some 19) (bm 4095 15) rfl rfl (by kernel_rfl) (by decide) (fun K hK=>?_)
   refine Kd.N_append_step k95 (w0:=w0) w0.heap.size (by rfl) (.tmp 12) (.tmp 18) 28 95 (.agg #[.int .i64 0,.int .i64 0,.slice none 0 0,.slice none 0 0]) 64 rfl Try.underlying28 info95 rfl (by decide) (by decide) _ out ⟨1,0,[],add⟩ [.int .i64 1,.int .i64 0,.slice none 0 0,.slice BI add.length dI] (fun k=>ok k ∧ k ≠ g) (fun k=>(ok k ∧ k ≠ g) ∧ some k ≠ (Value.slice AI out.length cI).ownBlock) (by rfl) (by rfl) (k95_mkF _ _ ⟨1,0,[],add⟩ (Nat.le_refl 0) (Kd.F_nil _ _ _) (Kd.N_reads' HD.out.radd).2.1 (Kd.N_F HD.out.radd)) (fun _ hk=>hk) (fun k hk=>⟨HO.out k (Nat.le_trans HDO.out.mv.size hk),fun e=>by have:=blk_lt HDO.out.blk;omega⟩) HDO.out.row HDO.out.bel HDO.out.bel.size (by have:=HL.out;omega) ?_
   intro v1 w1 hR1 hB1 hg hat
   obtain ⟨A1,n1,rfl⟩:=Kd.N_slice hR1
   obtain ⟨hb1,hW⟩:=HDO.out.app hR1 hB1 hg hat
   have HW:=Aside0.mk hW
   have hd0:w1.cell? ⟨g,0,none⟩ = _:=(blk_cell hb1 0).trans rfl
   have hd1:w1.cell? ⟨g,1,none⟩ = some (.slice BI add.length dI):=(blk_cell hb1 1).trans rfl
   have hd2:w1.cell? ⟨g,2,none⟩ = some (.int .i64 cut):=(blk_cell hb1 2).trans rfl
   have hdf:=blk_frozen hb1 0
   clear hR1 hB1 hg hat hb1 hW
   refine hK.out _ _ ⟨hd0,hd1⟩ (fun hHeld=>?_)
   clear hK K
   refine norm_ (a':=?_) ?_ ?_
   rotate_left
   ·show Act.put _ (some 19) _ = _
    simp only [Act.put,sA,sB,sC,i64_w,i32_w]
    rfl
   refine pure_ (i:=12) (N:=some 20) (v:=?_) (a':=?_) (bm 8191 15) rfl rfl (by kernel_rfl) (fun _ _ _ h=>h) (Or.inl ⟨by rfl,?_⟩) ?_ ?_
   rotate_left
   ·intro w'
    go_simp
    with_reducible rfl
   rotate_left
   ·simp only [Act.put,sA,sB,sC,i64_w,i32_w]
    rfl
   refine pure_ (i:=13) (N:=some 21) (v:=?_) (a':=?_) (bm 16383 15) rfl rfl (by kernel_rfl) (fun _ _ _ h=>h) (Or.inl ⟨by rfl,?_⟩) ?_ ?_
   rotate_left
   ·intro w'
    go_simp
    with_reducible rfl
   rotate_left
   ·simp only [Act.put,sA,sB,sC,i64_w,i32_w]
    rfl
   refine last_ (i:=14) (N:=none) (bm 32767 15) rfl rfl (by kernel_rfl) (by decide) (fun K hK=>?_)
   refine skip_ (w1:=?_) (by rfl) rfl ?_ ?_
   rotate_left
   ·go_simp
    rfl
   refine hK.out _ _ ?_
   clear hK K
   refine done_ (by kernel_rfl) ?_
   go_wp2
   go_meet
   case rel=>exact ⟨A1,n1,⟨by rw [HE.out];simpa using HW.out⟩⟩
 case rest =>
  clear hta hta2 hc0 hc1 hc2
  obtain ⟨A2,n2,HS2⟩:=hcut
  obtain ⟨l2,hl2⟩:∃ l:List S95,l = addD out add:=⟨_,rfl⟩
  have hlen:l2.length ≤ out.length + 1:=by rw [hl2];unfold addD;split <;> simp
  have HLEN:=Aside0.mk hlen
  rw [← hl2] at HS2
  have HL2:=Aside0.mk hl2
  clear hl2 hlen
  obtain ⟨tb,htb⟩:∃ t:Bool,decide (0 < cut) = t:=⟨_,rfl⟩
  have hc0:wc.cell? ⟨g,0,none⟩ = some (.slice A2 l2.length n2):=(blk_cell HS2.out.blk 0).trans rfl
  have hc1:wc.cell? ⟨g,1,none⟩ = some (.slice BI add.length dI):=(blk_cell HS2.out.blk 1).trans rfl
  have hc2:wc.cell? ⟨g,2,none⟩ = some (.int .i64 cut):=(blk_cell HS2.out.blk 2).trans rfl
  go_upto_if 26 with (fail)
  go_cut [] (fun we=>∃ (A1:Option Addr) (n1:Nat),Aside0 (WrO ok w0 w g (.slice AI out.length cI) (.slice BI add.length dI) (cutD l2 cut) cut (.slice A1 (cutD l2 cut).length n1) (.slice BI add.length dI) we))
  case first =>
   cases tb with
   | false =>
    have hadd:=of_decide_eq_false htb
    have e:cutD l2 cut = l2:=if_neg hadd
    go_wp2
    go_meet
    case rel=>exact ⟨A2,n2,⟨by rw [e];exact HS2.out⟩⟩
   | true =>
    have hadd:=of_decide_eq_true htb
    have e:cutD l2 cut = l2 ++ [⟨2,cut,[],[]⟩]:=if_pos hadd
    have HE:=Aside0.mk e
    clear hadd e
    have HDO:=Aside0.mk HS2.out.drew
    go_upto_region 3 with (fail)
    refine start_ (n:=15) (S:=fun w'=>w'.cell? ⟨g,0,none⟩ = some (.slice A2 l2.length n2) ∧ w'.cell? ⟨g,2,none⟩ = some (.int .i64 cut)) (ds:=[14]) #[false,false,false,false,false,false,false,false,false,false,false,false,false,false,false] (by kernel_rfl) rfl rfl ⟨((blk_cell HDO.out.blk 0).trans rfl),((blk_cell HDO.out.blk 2).trans rfl)⟩ (fun hHeld=>?_)
    refine pure_ (i:=0) (N:=some 27) (v:=?_) (a':=?_) (bm 1 15) rfl rfl (by kernel_rfl) (fun _ _ _ h=>h) (Or.inl ⟨by rfl,?_⟩) ?_ ?_
    rotate_left
    ·intro w'
     go_simp
     with_reducible rfl
    rotate_left
    ·simp only [Act.put,sA,sB,sC,i64_w,i32_w]
     rfl
    refine pure_ (i:=1) (N:=some 28) (v:=?_) (a':=?_) (bm 3 15) rfl rfl (by kernel_rfl) (fun _ _ _ h=>h) (Or.inl ⟨by rfl,?_⟩) ?_ ?_
    rotate_left
    ·intro w'
     go_simp
     with_reducible rfl
    rotate_left
    ·simp only [Act.put,sA,sB,sC,i64_w,i32_w]
     rfl
    refine pure_ (i:=2) (N:=some 29) (v:=?_) (a':=?_) (bm 7 15) rfl rfl (by kernel_rfl) (fun _ _ _ h=>h) (Or.inl ⟨by rfl,?_⟩) ?_ ?_
    rotate_left
    ·intro w'
     go_simp
     with_reducible rfl
    rotate_left
    ·simp only [Act.put,sA,sB,sC,i64_w,i32_w]
     rfl
    refine pure_ (i:=3) (N:=some 30) (v:=?_) (a':=?_) (bm 15 15) rfl rfl (by kernel_rfl) (fun _ _ _ h=>h) (Or.inl ⟨by rfl,?_⟩) ?_ ?_
    rotate_left
    ·intro w'
     go_simp
     with_reducible rfl
    rotate_left
    ·simp only [Act.put,sA,sB,sC,i64_w,i32_w]
     rfl
    refine pure_ (i:=5) (N:=some 32) (v:=?_) (a':=?_) (bm 47 15) rfl rfl (by kernel_rfl) (fun _ _ _ h=>h) (Or.inl ⟨by rfl,?_⟩) ?_ ?_
    rotate_left
    ·intro w'
     go_simp
     with_reducible rfl
    rotate_left
    ·simp only [Act.put,sA,sB,sC,i64_w,i32_w]
     rfl
    refine pure_ (i:=6) (N:=some 33) (v:=?_) (a':=?_) (bm 111 15) rfl rfl (by kernel_rfl) (fun _ _ _ h=>h) (Or.inl ⟨by rfl,?_⟩) ?_ ?_
    rotate_left
    ·intro w'
     go_simp
     with_reducible rfl
    rotate_left
    ·simp only [Act.put,sA,sB,sC,i64_w,i32_w]
     rfl
    refine pure_ (i:=7) (N:=some 34) (v:=?_) (a':=?_) (bm 239 15) rfl rfl (by kernel_rfl) (fun _ _ _ h=>h) (Or.inl ⟨by rfl,?_⟩) ?_ ?_
    rotate_left
    ·intro w'
     go_simp
     with_reducible rfl
    rotate_left
    ·simp only [Act.put,sA,sB,sC,i64_w,i32_w]
     rfl
    refine take_ (i:=4) (N:=some 31) (v:=?_) (a':=?_) (bm 255 15) rfl rfl (by kernel_rfl) (fun _ _ _ h=>h) (Or.inl ⟨by rfl,?_⟩) hHeld ?_ ?_
    rotate_left
    ·rintro w' ⟨s0,s1⟩
     go_simp
     with_reducible rfl
    rotate_left
    ·simp only [Act.put,sA,sB,sC,i64_w,i32_w]
     rfl
    refine take_ (i:=8) (N:=some 35) (v:=?_) (a':=?_) (bm 511 15) rfl rfl (by kernel_rfl) (fun _ _ _ h=>h) (Or.inl ⟨by rfl,?_⟩) hHeld ?_ ?_
    rotate_left
    ·rintro w' ⟨s0,s1⟩
     go_simp
     with_reducible rfl
    rotate_left
    ·simp only [Act.put,sA,sB,sC,i64_w,i32_w]
     rfl
    refine pure_ (i:=9) (N:=some 36) (v:=?_) (a':=?_) (bm 1023 15) rfl rfl (by kernel_rfl) (fun _ _ _ h=>h) (Or.inl ⟨by rfl,?_⟩) ?_ ?_
    rotate_left
    ·intro w'
     go_simp
     with_reducible rfl
    rotate_left
    ·simp only [Act.put,sA,sB,sC,i64_w,i32_w]
     rfl
    refine one_ (i:=10) (N:=some 37) (bm 2047 15) rfl rfl (by kernel_rfl) (by decide) (fun K hK=>?_)
    refine value_ (w1:=?_) (v:=?_) (by rfl) rfl ?_ ?_
    rotate_left 2
    ·go_simp
     constructor
     ·rfl
     ·rfl
    refine hK.out _ _ ⟨((blk_cell (blk_alloc HDO.out.blk _) 0).trans rfl),((blk_cell (blk_alloc HDO.out.blk _) 2).trans rfl)⟩ (fun hHeld=>?_)
    clear hK K
    refine norm_ (a':=?_) ?_ ?_
    rotate_left
    ·show Act.put _ (some 37) _ = _
     simp only [Act.put,sA,sB,sC,i64_w,i32_w]
     rfl
    refine one_ (i:=11) (N:=some 38) (bm 4095 15) rfl rfl (by kernel_rfl) (by decide) (fun K hK=>?_)
    refine Kd.N_append_step k95 (w0:=w0) w0.heap.size (by rfl) (.tmp 31) (.tmp 37) 28 95 (.agg #[.int .i64 0,.int .i64 0,.slice none 0 0,.slice none 0 0]) 64 rfl Try.underlying28 info95 rfl (by decide) (by decide) _ l2 ⟨2,cut,[],[]⟩ [.int .i64 2,.int .i64 cut,.slice none 0 0,.slice none 0 0] (fun k=>ok k ∧ k ≠ g) (fun _=>False) (by rfl) (by rfl) (k95_mkF _ _ ⟨2,cut,[],[]⟩ (Nat.le_refl 0) (Kd.F_nil _ _ _) (Nat.le_refl 0) (Kd.F_nil _ _ _)) (fun _ h=>h.elim) (fun k hk=>⟨HO.out k (Nat.le_trans HDO.out.mv.size hk),fun e=>by have:=blk_lt HDO.out.blk;omega⟩) HDO.out.row HDO.out.bel HDO.out.bel.size (by have:=HL.out;have:=HLEN.out;omega) ?_
    intro v1 w1 hR1 hB1 hg hat
    obtain ⟨A1,n1,rfl⟩:=Kd.N_slice hR1
    obtain ⟨hb1,hW⟩:=HDO.out.app hR1 hB1 hg hat
    have HW:=Aside0.mk hW
    have hd0:w1.cell? ⟨g,0,none⟩ = _:=(blk_cell hb1 0).trans rfl
    have hd1:w1.cell? ⟨g,1,none⟩ = some (.slice BI add.length dI):=(blk_cell hb1 1).trans rfl
    have hd2:w1.cell? ⟨g,2,none⟩ = some (.int .i64 cut):=(blk_cell hb1 2).trans rfl
    have hdf:=blk_frozen hb1 0
    clear hR1 hB1 hg hat hb1 hW
    refine hK.out _ _ ⟨hd0,hd2⟩ (fun hHeld=>?_)
    clear hK K
    refine norm_ (a':=?_) ?_ ?_
    rotate_left
    ·show Act.put _ (some 38) _ = _
     simp only [Act.put,sA,sB,sC,i64_w,i32_w]
     rfl
    refine pure_ (i:=12) (N:=some 39) (v:=?_) (a':=?_) (bm 8191 15) rfl rfl (by kernel_rfl) (fun _ _ _ h=>h) (Or.inl ⟨by rfl,?_⟩) ?_ ?_
    rotate_left
    ·intro w'
     go_simp
     with_reducible rfl
    rotate_left
    ·simp only [Act.put,sA,sB,sC,i64_w,i32_w]
     rfl
    refine pure_ (i:=13) (N:=some 40) (v:=?_) (a':=?_) (bm 16383 15) rfl rfl (by kernel_rfl) (fun _ _ _ h=>h) (Or.inl ⟨by rfl,?_⟩) ?_ ?_
    rotate_left
    ·intro w'
     go_simp
     with_reducible rfl
    rotate_left
    ·simp only [Act.put,sA,sB,sC,i64_w,i32_w]
     rfl
    refine last_ (i:=14) (N:=none) (bm 32767 15) rfl rfl (by kernel_rfl) (by decide) (fun K hK=>?_)
    refine skip_ (w1:=?_) (by rfl) rfl ?_ ?_
    rotate_left
    ·go_simp
     rfl
    refine hK.out _ _ ?_
    clear hK K
    refine done_ (by kernel_rfl) ?_
    go_wp2
    go_meet
    case rel=>exact ⟨A1,n1,⟨by rw [HE.out];simpa using HW.out⟩⟩
  case rest =>
   clear htb hc0 hc1 hc2
   obtain ⟨A3,n3,HS3⟩:=hcut
   have HS4:=Aside0.mk HS3.out.clear
   have hc1:=(blk_cell HS3.out.blk 1).trans rfl
   have hc2:=(blk_cell HS3.out.blk 2).trans rfl
   have hf1:=blk_frozen HS3.out.blk 1
   have hf2:=blk_frozen HS3.out.blk 2
   go_wp2
   go_end0
   exact ⟨rfl,_,by unfold flushD;rw [← HL2.out];exact HS4.out⟩
section
variable {ok:Nat → Prop} {w0 wI w w1:World} {g:Nat} {vI uI v u v1 u1:Value} {out out':List S95} {add add':List S26} {cut:Int}
theorem mv_below (h:Moves2 wI w g vI uI v u) (hb:Below w.heap.size w w1):Moves2 wI w1 g vI uI v u :=
 ⟨Nat.le_trans h.size hb.size,fun k hk hgk hv hu=>by rw [hb.block k (Nat.lt_of_lt_of_le hk h.size),h.frame k hk hgk hv hu],h.ownv,h.ownu⟩
theorem WrD.below (h:WrD ok w0 wI g vI uI out add cut v u w) (hb:Below w.heap.size w w1):WrD ok w0 wI g vI uI out add cut v u w1 :=
 ⟨h.ge,(hb.block _ (blk_lt h.blk)).trans h.blk,Kd.N_below h.row hb,Kd.N_below h.radd hb,below_step h.bel hb,mv_below h.mv hb⟩
theorem WrD.here (h:WrD ok w0 wI g vI uI out add cut v u w):WrD ok w0 w g v u out add cut v u w:=⟨h.ge,h.blk,h.row,h.radd,h.bel,Moves2.refl _ _ _ _⟩
theorem mv_appu (h:Moves2 wI w g vI uI v u) (hg:w.grownBy w1 u.ownBlock) (hat:u1.ownBlock = u.ownBlock ∨ ∃ b,u1.ownBlock = some b ∧ w.heap.size ≤ b):Moves2 wI w1 g vI uI v u1:=by
 refine ⟨Nat.le_trans h.size hg.size,fun k hk hgk hv hu=>?_,h.ownv,?_⟩
 ·rw [hg.block k (Nat.lt_of_lt_of_le hk h.size) ?_,h.frame k hk hgk hv hu]
  rcases h.ownu with e | e | ⟨b,e,hb⟩
  ·rw [e];exact hu
  ·rw [e];simp
  ·rw [e];intro h';injection h' with h';omega
 ·rcases hat with e | ⟨b,e,hb⟩
  ·rw [e];exact h.ownu
  ·exact .inr (.inr ⟨b,e,Nat.le_trans h.size hb⟩)
theorem WrD.appu (h:WrD ok w0 wI g vI uI out add cut v u w) (hR:Kd.N k26 26 w1 w0.heap.size (fun k=>(ok k ∧ k ≠ g) ∧ some k ≠ v.ownBlock) u1 add') (hB:Below w0.heap.size w0 w1) (hg:w.grownBy w1 u.ownBlock)
 (hat:u1.ownBlock = u.ownBlock ∨ ∃ b,u1.ownBlock = some b ∧ w.heap.size ≤ b) :
 w1.heap[g]? = some (.cells #[v,u,.int .i64 cut] 193 (0,0)) ∧ WrD ok w0 wI g vI uI out add' cut v u1 (w1.setCell ⟨g,1,none⟩ u1):=by
 have hb:=blk_grown h.blk hg (Kd.N_away h.radd (fun _ hk=>hk.1.2))
 exact ⟨hb,h.ge,blk_put hb 1 u1 rfl,Kd.N_far (Kd.N_afterv h.row hg hat) (fun _ hk=>hk.1.2) u1,Kd.N_far hR (fun _ hk=>hk.1.2) u1,below_set hB h.ge,mv_set (mv_appu h.mv hg hat) 1 u1⟩
theorem WrD.fresh (h:WrD ok w0 wI g vI uI out add cut v u w) (hok:∀ k,wI.heap.size ≤ k → ok k) (k:Nat) (hk:w.heap.size ≤ k):((ok k ∧ k ≠ g) ∧ some k ≠ v.ownBlock) ∧ some k ≠ u.ownBlock:=by
 have hg:=blk_lt h.blk
 refine ⟨⟨⟨hok k (Nat.le_trans h.mv.size hk),fun e=>by omega⟩,fun e=>?_⟩,fun e=>?_⟩
 ·have:=Kd.N_lt h.row k e.symm;omega
 ·have:=Kd.N_lt h.radd k e.symm;omega
theorem WrD.put2 (h:WrD ok w0 wI g vI uI out add cut v u w) (x:Int):WrD ok w0 wI g vI uI out add x v u (w.setCell ⟨g,2,none⟩ (.int .i64 x)) :=
 ⟨h.ge,blk_put h.blk 2 _ rfl,Kd.N_far h.row (fun _ hk=>hk.1.2) _,Kd.N_far h.radd (fun _ hk=>hk.1.2) _,below_set h.bel h.ge,mv_set h.mv 2 _⟩
end
set_option maxRecDepth 100000 in
set_option maxHeartbeats 8000000 in
theorem elems_calls (ok:Nat → Prop) (w0:World) (g:Nat) (out:List S95) (add:List S26) (cut:Int) (vI uI:Value) (w:World) (k:Nat) (A:Option Addr) (c:Nat) (l r:List S26) (h:WrD ok w0 w g vI uI out add cut vI uI w) (hok:∀ k,w.heap.size ≤ k → ok k)
 (hr:Kd.C k26 w A l.length l) (hc:l.length ≤ c) (hf:flow_Copy.f k l = some r) (hl:(add.length + r.length) * 40 ≤ 140737488355328) :
 Calls Try.prog 125 #[.pointer (some ⟨g,0,none⟩),.slice A l.length c] w fun e w'=>e = .returned (.tuple #[]) ∧ ∃ u,WrD ok w0 w g vI uI out (add ++ r) cut vI u w':=by
 have hu26:=Try.underlying26
 have hu193:=Try.underlying193
 obtain ⟨BI,dI,huI⟩:=Kd.N_slice h.radd
 subst huI
 have HS:=Aside0.mk h
 have HD:=Aside0.mk h.drew
 have HO:=Aside0.mk hok
 have HL:=Aside0.mk hl
 have HR:=Aside0.mk (Kd.C_below hr (below_drew1 (Below.refl _ _)))
 have HC:=Aside0.mk hc
 have HF:=Aside0.mk hf
 clear h hok hl hr hc hf
 have hc1:w.cell? ⟨g,1,none⟩ = some (.slice BI add.length dI):=(blk_cell HS.out.blk 1).trans rfl
 go_enter Try.func125,Try.ntmps125
 go_upto_region 0 with (fail)
 refine start_ (n:=11) (S:=fun w'=>w'.cell? ⟨g,1,none⟩ = some (.slice BI add.length dI)) (ds:=[10]) #[false,false,false,false,false,false,false,false,false,false,false] (by kernel_rfl) rfl rfl (((blk_cell HD.out.blk 1).trans rfl)) (fun hHeld=>?_)
 refine pure_ (i:=0) (N:=some 4) (v:=?_) (a':=?_) (bm 1 11) rfl rfl (by kernel_rfl) (fun _ _ _ h=>h) (Or.inl ⟨by rfl,?_⟩) ?_ ?_
 rotate_left
 ·intro w'
  go_simp
  with_reducible rfl
 rotate_left
 ·simp only [Act.put,sA,sB,sC,i64_w,i32_w]
  rfl
 refine pure_ (i:=1) (N:=some 5) (v:=?_) (a':=?_) (bm 3 11) rfl rfl (by kernel_rfl) (fun _ _ _ h=>h) (Or.inl ⟨by rfl,?_⟩) ?_ ?_
 rotate_left
 ·intro w'
  go_simp
  with_reducible rfl
 rotate_left
 ·simp only [Act.put,sA,sB,sC,i64_w,i32_w]
  rfl
 refine pure_ (i:=2) (N:=some 6) (v:=?_) (a':=?_) (bm 7 11) rfl rfl (by kernel_rfl) (fun _ _ _ h=>h) (Or.inl ⟨by rfl,?_⟩) ?_ ?_
 rotate_left
 ·intro w'
  go_simp
  with_reducible rfl
 rotate_left
 ·simp only [Act.put,sA,sB,sC,i64_w,i32_w]
  rfl
 refine pure_ (i:=3) (N:=some 7) (v:=?_) (a':=?_) (bm 15 11) rfl rfl (by kernel_rfl) (fun _ _ _ h=>h) (Or.inl ⟨by rfl,?_⟩) ?_ ?_
 rotate_left
 ·intro w'
  go_simp
  with_reducible rfl
 rotate_left
 ·simp only [Act.put,sA,sB,sC,i64_w,i32_w]
  rfl
 refine pure_ (i:=5) (N:=some 9) (v:=?_) (a':=?_) (bm 47 11) rfl rfl (by kernel_rfl) (fun _ _ _ h=>h) (Or.inl ⟨by rfl,?_⟩) ?_ ?_
 rotate_left
 ·intro w'
  go_simp
  with_reducible rfl
 rotate_left
 ·simp only [Act.put,sA,sB,sC,i64_w,i32_w]
  rfl
 refine take_ (i:=4) (N:=some 8) (v:=?_) (a':=?_) (bm 63 11) rfl rfl (by kernel_rfl) (fun _ _ _ h=>h) (Or.inl ⟨by rfl,?_⟩) hHeld ?_ ?_
 rotate_left
 ·intro w' s0
  go_simp
  with_reducible rfl
 rotate_left
 ·simp only [Act.put,sA,sB,sC,i64_w,i32_w]
  rfl
 refine one_ (i:=6) (N:=some 10) (bm 127 11) rfl rfl (by kernel_rfl) (by decide) (fun K hK=>?_)
 refine goes_ Try.func92 (by kernel_rfl) rfl #[.slice A l.length c] (by rfl) rfl rfl (by simp only [List.map_toArray,List.map_cons,List.map_nil];rfl) ?_
 with_reducible refine (flow_Copy.calls k A c l r _ HR.out HC.out HF.out).mono ?_
 rintro e w3 ⟨v3,rfl,hN3,hb3⟩
 refine ⟨_,rfl,?_⟩
 obtain ⟨A3,n3,rfl⟩:=Kd.N_slice hN3
 have HD3:=Aside0.mk (HD.out.below hb3)
 have HN3:=Aside0.mk hN3
 clear hN3 hb3
 refine hK.out _ _ (((blk_cell HD3.out.blk 1).trans rfl)) (fun hHeld=>?_)
 clear hK K
 refine norm_ (a':=?_) ?_ ?_
 rotate_left
 ·show Act.put _ (some 10) _ = _
  simp only [Act.put,sA,sB,sC,i64_w,i32_w]
  rfl
 refine one_ (i:=7) (N:=some 11) (bm 255 11) rfl rfl (by kernel_rfl) (by decide) (fun K hK=>?_)
 refine Kd.N_append_rows_step k26 (w0:=w0) w0.heap.size (by rfl) (.tmp 8) (.tmp 10) 22 26 (.agg #[.int .i64 0,.int .i64 0,.slice none 0 0]) 40 rfl Try.underlying22 info26 rfl (by decide) (by decide) _ add r _ _ _ (fun k=>(ok k ∧ k ≠ g) ∧ some k ≠ vI.ownBlock) (fun k=>w.drew.heap.size ≤ k) (by rfl) (by rfl) HD3.out.radd (Kd.N_F HN3.out) (fun k hk=>HD.out.fresh HO.out k hk) (fun k hk=>(HD3.out.fresh HO.out k hk).1) HD3.out.bel HD3.out.bel.size (by have:=HL.out;omega) ?_
 intro u1 w1 hR1 hB1 hg hat
 obtain ⟨A1,n1,rfl⟩:=Kd.N_slice hR1
 obtain ⟨hb1,hW⟩:=HD3.out.appu hR1 hB1 hg hat
 have HW:=Aside0.mk hW
 have hd1:w1.cell? ⟨g,1,none⟩ = some (.slice BI add.length dI):=(blk_cell hb1 1).trans rfl
 have hdf:=blk_frozen hb1 1
 clear hR1 hB1 hg hat hb1 hW
 refine hK.out _ _ (hd1) (fun hHeld=>?_)
 clear hK K
 refine norm_ (a':=?_) ?_ ?_
 rotate_left
 ·show Act.put _ (some 11) _ = _
  simp only [Act.put,sA,sB,sC,i64_w,i32_w]
  rfl
 refine pure_ (i:=8) (N:=some 12) (v:=?_) (a':=?_) (bm 511 11) rfl rfl (by kernel_rfl) (fun _ _ _ h=>h) (Or.inl ⟨by rfl,?_⟩) ?_ ?_
 rotate_left
 ·intro w'
  go_simp
  with_reducible rfl
 rotate_left
 ·simp only [Act.put,sA,sB,sC,i64_w,i32_w]
  rfl
 refine pure_ (i:=9) (N:=some 13) (v:=?_) (a':=?_) (bm 1023 11) rfl rfl (by kernel_rfl) (fun _ _ _ h=>h) (Or.inl ⟨by rfl,?_⟩) ?_ ?_
 rotate_left
 ·intro w'
  go_simp
  with_reducible rfl
 rotate_left
 ·simp only [Act.put,sA,sB,sC,i64_w,i32_w]
  rfl
 refine last_ (i:=10) (N:=none) (bm 2047 11) rfl rfl (by kernel_rfl) (by decide) (fun K hK=>?_)
 refine skip_ (w1:=?_) (by rfl) rfl ?_ ?_
 rotate_left
 ·go_simp
  rfl
 refine hK.out _ _ ?_
 clear hK K
 refine done_ (by kernel_rfl) ?_
 go_wp2
 go_end0
 exact ⟨rfl,_,by have:=HW.out;rw [List.length_append] at this;exact this⟩
theorem flushD_len (out:List S95) (add:List S26) (c:Int):out.length ≤ (flushD out add c).length ∧ (flushD out add c).length ≤ out.length + 2:=by
 unfold flushD addD cutD
 repeat (first | split | simp)
def keepB (k:Nat) (o:List S95) (attrs:List S91):Option Bool :=
 if 0 < o.length then (if (rd_T95 o ((o.length:Int) - 1)).f0 = 0 then attr_Same.f k (rd_T95 o ((o.length:Int) - 1)).f2 attrs else some false) else some false
def keepO (o:List S95) (n:Int) (attrs:List S91):Bool → List S95
 | true=>o.set (o.length - 1) ⟨(rd_T95 o ((o.length:Int) - 1)).f0,wrap64 ((rd_T95 o ((o.length:Int) - 1)).f1 + n),(rd_T95 o ((o.length:Int) - 1)).f2,(rd_T95 o ((o.length:Int) - 1)).f3⟩
 | false=>o ++ [⟨0,n,attrs,[]⟩]
theorem wrd_seg {ok:Nat → Prop} {w0 wI w:World} {g go n cap j:Nat} {vI uI u:Value} {o o':List S95} {a:List S26} {c:Int} {x:Value} (h:WrD ok w0 wI g vI uI o a c (.slice (some ⟨go,0,none⟩) n cap) u w) (hne:go ≠ g) (hgo:w0.heap.size ≤ go)
 (hR:Kd.N k95 95 (w.setCell ⟨go,j,none⟩ x) w0.heap.size (fun k=>(ok k ∧ k ≠ g) ∧ some k ≠ u.ownBlock) (.slice (some ⟨go,0,none⟩) n cap) o'):WrD ok w0 wI g vI uI o' a c (.slice (some ⟨go,0,none⟩) n cap) u (w.setCell ⟨go,j,none⟩ x):=by
 refine ⟨h.ge,blk_far h.blk (fun e=>hne e.symm) _,hR,Kd.N_far h.radd (fun k hk e=>hk.2 (by rw [show k = go from e];rfl)) _,below_set h.bel hgo,⟨by have:=h.mv.size;simp [World.setCell];omega,fun k hk hgk hv hu=>?_,h.mv.ownv,h.mv.ownu⟩⟩
 have hk':k ≠ go:=by
  rcases h.mv.ownv with e | ⟨b,e,hb⟩
  ·intro e2
   apply hv
   rw [← e,e2]
   rfl
  ·have:go = b:=by simpa [Value.ownBlock] using e
   omega
 rw [Below.heap_setCell _ _ _ _ hk',h.mv.frame k hk hgk hv hu]
theorem WrD.appv {ok:Nat → Prop} {w0 wI w w1:World} {g:Nat} {vI uI v v1:Value} {out out':List S95} {cut:Int} (h:WrD ok w0 wI g vI uI out [] cut v (.slice none 0 0) w) (hR:Kd.N k95 95 w1 w0.heap.size (fun k=>(ok k ∧ k ≠ g) ∧ some k ≠ (Value.slice none 0 0).ownBlock) v1 out') (hB:Below w0.heap.size w0 w1) (hg:w.grownBy w1 v.ownBlock)
 (hat:v1.ownBlock = v.ownBlock ∨ ∃ b,v1.ownBlock = some b ∧ w.heap.size ≤ b) :
 w1.heap[g]? = some (.cells #[v,.slice none 0 0,.int .i64 cut] 193 (0,0)) ∧ WrD ok w0 wI g vI uI out' [] cut v1 (.slice none 0 0) (w1.setCell ⟨g,0,none⟩ v1):=by
 have hb:=blk_grown h.blk hg (Kd.N_away h.row (fun _ hk=>hk.1.2))
 exact ⟨hb,h.ge,blk_put hb 0 v1 rfl,Kd.N_far hR (fun _ hk=>hk.1.2) v1,Kd.N_nil _ _ _ _ _,below_set hB h.ge,mv_set (mv_app h.mv hg hat) 0 v1⟩
theorem n38_tight {e:Nat} {w:World} {base:Nat} {ok ok':Nat → Prop} {v:Value} {xs:List S91} (h:Kd.N k91 e w base ok v xs) (hok:∀ k,v.ownBlock = some k → ok' k):Kd.N k91 e w base ok' v xs:=by
 obtain ⟨_,rows,hl,hR,hf⟩:=h
 refine ⟨hok,rows,hl,hR,fun j x c hx hc=>?_⟩
 obtain rfl:=k91_open (Kd.FK_now (hf j x c hx hc))
 exact k91_mkF _ _ _
def Off (g:Nat) (v u:Value) (k:Nat):Prop:=(k ≠ g ∧ some k ≠ v.ownBlock) ∧ some k ≠ u.ownBlock
theorem off_move {wI w:World} {g:Nat} {vI uI v u:Value} {A:Option Addr} {n:Nat} {xs:List S91} (m:Moves2 wI w g vI uI v u) (h:Kd.F k91 wI (Off g vI uI) A n xs):Kd.F k91 w (Off g v u) A n xs:=by
 refine Kd.F_mono (Kd.F_step (Kd.F_bound h) (fun k hk hlt=>m.frame k hlt hk.1.1.1 hk.1.1.2 hk.1.2)) (fun k hk=>⟨⟨hk.1.1.1,?_⟩,?_⟩)
 ·rcases m.ownv with e | ⟨b,e,hb⟩
  ·rw [e];exact hk.1.1.2
  ·rw [e];intro h';injection h' with h';have:=hk.2;omega
 ·rcases m.ownu with e | e | ⟨b,e,hb⟩
  ·rw [e];exact hk.1.2
  ·rw [e];simp
  ·rw [e];intro h';injection h' with h';have:=hk.2;omega
set_option maxRecDepth 100000 in
set_option maxHeartbeats 4000000 in
theorem keep_zero (ok:Nat → Prop) (w0:World) (g:Nat) (out:List S95) (add:List S26) (cut:Int) (vI uI:Value) (w:World) (A:Option Addr) (c:Nat) (attrs:List S91) (h:WrD ok w0 w g vI uI out add cut vI uI w) :
 Calls Try.prog 124 #[.pointer (some ⟨g,0,none⟩),.int .i64 0,.slice A attrs.length c] w fun e w'=>e = .returned (.tuple #[]) ∧ WrD ok w0 w g vI uI out add cut vI uI w':=by
 have HS:=Aside0.mk h
 clear h
 go_enter Try.func124,Try.ntmps124
 go_wp2
 refine bodyPost_ret (results_none (by rfl) _ _ _) rfl ?_
 exact ⟨rfl,HS.out⟩
set_option maxRecDepth 100000 in
set_option maxHeartbeats 8000000 in
theorem keep_calls (ok:Nat → Prop) (w0:World) (g:Nat) (out:List S95) (add:List S26) (cut n:Int) (vI uI:Value) (w:World) (k:Nat) (A:Option Addr) (c:Nat) (attrs:List S91) (b:Bool) (h:WrD ok w0 w g vI uI out add cut vI uI w) (hok:∀ k,w.heap.size ≤ k → ok k)
 (hF:Kd.F k91 w (Off g vI uI) A attrs.length attrs) (hc:attrs.length ≤ c) (hl:(out.length + 3) * 64 ≤ 140737488355328) (hla:attrs.length * 32 ≤ 140737488355328) (hn:n ≠ 0) (hb:keepB k (flushD out add cut) attrs = some b) :
 Calls Try.prog 124 #[.pointer (some ⟨g,0,none⟩),.int .i64 n,.slice A attrs.length c] w fun e w'=>e = .returned (.tuple #[]) ∧ ∃ v,WrD ok w0 w g vI uI (keepO (flushD out add cut) n attrs b) [] 0 v (.slice none 0 0) w':=by
 have hu95:=Try.underlying95
 have hu193:=Try.underlying193
 have hu91:=Try.underlying91
 have HFL:=Aside0.mk (flush_calls ok w0 g out add cut vI uI w h hok (by omega))
 have HO:=Aside0.mk hok
 have HF:=Aside0.mk hF
 have HC:=Aside0.mk hc
 have HLA:=Aside0.mk hla
 have HL:=Aside0.mk (show (flushD out add cut).length ≤ 2199023255551 by have:=(flushD_len out add cut).2;omega)
 have c1b:(n == 0) = false:=beq_eq_false_iff_ne.mpr hn
 clear h hok hF hc hl hla hn
 obtain ⟨o,ho⟩:∃ o,o = flushD out add cut:=⟨_,rfl⟩
 rw [← ho] at HFL HL hb ⊢
 clear ho
 go_enter Try.func124,Try.ntmps124
 go_wp2_with (go_at_call 158;refine HFL.out.mono ?_)
 rintro e w1 ⟨rfl,v,hS⟩
 obtain ⟨A1,n1,rfl⟩:=Kd.N_slice hS.row
 have HS:=Aside0.mk hS
 have HF1:=Aside0.mk (off_move hS.mv HF.out)
 have hc0:w1.cell? ⟨g,0,none⟩ = some (.slice A1 o.length n1):=(blk_cell HS.out.blk 0).trans rfl
 have hf0:=blk_frozen HS.out.blk 0
 have hg:g < w1.heap.size:=blk_lt hS.blk
 have hlen:=HL.out
 clear hS HFL HF
 have hc0:w1.cell? ⟨g,0,none⟩ = some (.slice A1 o.length n1):=(blk_cell HS.out.blk 0).trans rfl
 go_upto_region 3 with (fail)
 go_cut [41] (fun v41 wx=>v41 = .bool b ∧ Aside0 (WrD ok w0 w g vI uI o [] 0 (.slice A1 o.length n1) (.slice none 0 0) wx) ∧ Aside0 (Kd.F k91 wx (Off g (.slice A1 o.length n1) (.slice none 0 0)) A attrs.length attrs))
 case first =>
  by_cases hz:0 < o.length
  ·have p0:0 ≤ (o.length:Int) - 1:=by omega
   have q0:(o.length:Int) - 1 < (o.length:Int):=by omega
   obtain ⟨go,co,eo,gb,gl,cells,hblk⟩:=Kd.N_form HS.out.row hz
   injection eo with ea en ec
   subst ea
   subst ec
   clear en
   obtain ⟨ce,hcl,hM,hcc,hfr⟩:=Kd.N_elem HS.out.row z95 ((o.length:Int) - 1) p0 q0
   obtain ⟨B2,m2,B3,m3,rfl,hm2,hF2,hm3,hF3⟩:=k95_openF hM
   have hix:∀ j,(((o.length:Int) - 1).toNat * k95.sz + j) = (o.length - 1) * 4 + j:=fun j=>by show (((o.length:Int) - 1).toNat * 4 + j) = _;omega
   have hx0:w1.cell? ⟨go,(o.length - 1) * 4,none⟩ = some (.int .i64 (rd_T95 o ((o.length:Int) - 1)).f0):=by
    have:=hcc 0 _ rfl
    rwa [hix] at this
   have hx2:w1.cell? ⟨go,(o.length - 1) * 4 + 2,none⟩ = some (.slice B2 (rd_T95 o ((o.length:Int) - 1)).f2.length m2):=by
    have:=hcc 2 _ rfl
    rwa [hix] at this
   rw [keepB,if_pos hz] at hb
   by_cases hkp:(rd_T95 o ((o.length:Int) - 1)).f0 = 0
   ·rw [if_pos hkp] at hb
    have c4:((rd_T95 o ((o.length:Int) - 1)).f0 == 0) = true:=beq_iff_eq.mpr hkp
    have HB:=Aside0.mk hb
    have HM2:=Aside0.mk hm2
    have HF2:=Aside0.mk hF2
    clear hb hm2 hF2 hm3 hF3 hM hcc hcl gb hkp gl hblk hfr hix
    go_wp2_with (go_at_call 105;refine (attr_Same.calls k B2 m2 (rd_T95 o ((o.length:Int) - 1)).f2 A c attrs b _ (Kd.F_now HF2.out) HM2.out (Kd.F_now HF1.out) HC.out HB.out).mono ?_;rintro e w2 ⟨rfl,hd⟩;obtain ⟨nd,rfl⟩:=hd)
    go_meet
    case rel=>exact ⟨by cases b <;> rfl,⟨HS.out.drewN nd⟩,⟨Kd.F_drewN HF1.out nd⟩⟩
   ·rw [if_neg hkp] at hb
    obtain rfl:=Option.some.inj hb
    have c4:((rd_T95 o ((o.length:Int) - 1)).f0 == 0) = false:=beq_eq_false_iff_ne.mpr hkp
    clear hb hm2 hF2 hm3 hF3 hM hcc hcl gb hkp gl hblk hfr hix
    go_wp2
    go_meet
    case rel=>exact ⟨rfl,HS,HF1⟩
  ·have hnil:o = []:=List.eq_nil_of_length_eq_zero (by omega)
   subst hnil
   rw [keepB,if_neg (by decide)] at hb
   obtain rfl:=Option.some.inj hb
   go_wp2
   go_meet
   case rel=>exact ⟨rfl,HS,HF1⟩
 case rest =>
  clear HS HF1 hc0 hf0 hg
  obtain ⟨rfl,HS,HF1⟩:=hcut
  have hc0:wc.cell? ⟨g,0,none⟩ = some (.slice A1 o.length n1):=(blk_cell HS.out.blk 0).trans rfl
  have hf0:=blk_frozen HS.out.blk 0
  have hg:g < wc.heap.size:=blk_lt HS.out.blk
  cases b with
  | true =>
   have hz:0 < o.length:=by
    rw [keepB] at hb
    by_cases hz:0 < o.length
    ·exact hz
    ·rw [if_neg hz] at hb;cases hb
   clear hb
   have p0:0 ≤ (o.length:Int) - 1:=by omega
   have q0:(o.length:Int) - 1 < (o.length:Int):=by omega
   obtain ⟨go,co,eo,gb,gl,cells,hblk⟩:=Kd.N_form HS.out.row hz
   injection eo with ea en ec
   subst ea
   subst ec
   clear en
   obtain ⟨ce,hcl,hM,hcc,hfr⟩:=Kd.N_elem HS.out.row z95 ((o.length:Int) - 1) p0 q0
   obtain ⟨B2,m2,B3,m3,rfl,hm2,hF2,hm3,hF3⟩:=k95_openF hM
   have hne:go ≠ g:=fun e=>Kd.N_away HS.out.row (fun _ hk=>hk.1.2) (by rw [e];rfl)
   have hix:∀ j,(((o.length:Int) - 1).toNat * k95.sz + j) = (o.length - 1) * 4 + j:=fun j=>by show (((o.length:Int) - 1).toNat * 4 + j) = _;omega
   have hx1:wc.cell? ⟨go,(o.length - 1) * 4 + 1,none⟩ = some (.int .i64 (rd_T95 o ((o.length:Int) - 1)).f1):=by
    have:=hcc 1 _ rfl
    rwa [hix] at this
   have hfx1:wc.frozen? ⟨go,(o.length - 1) * 4 + 1,none⟩ = false:=by
    have:=hfr 1
    rwa [hix] at this
   have HSEG:=Aside0.mk (Kd.N_seg HS.out.row ((o.length:Int) - 1) p0 q0 (seg:=[.int .i64 (wrap64 ((rd_T95 o ((o.length:Int) - 1)).f1 + n))]) (j:=1) hcl hcc (by show 2 ≤ 4;omega)
    (x':=(⟨(rd_T95 o ((o.length:Int) - 1)).f0,wrap64 ((rd_T95 o ((o.length:Int) - 1)).f1 + n),(rd_T95 o ((o.length:Int) - 1)).f2,(rd_T95 o ((o.length:Int) - 1)).f3⟩:S95)) (k95_mkF _ _ ⟨(rd_T95 o ((o.length:Int) - 1)).f0,wrap64 ((rd_T95 o ((o.length:Int) - 1)).f1 + n),(rd_T95 o ((o.length:Int) - 1)).f2,(rd_T95 o ((o.length:Int) - 1)).f3⟩ hm2 hF2 hm3 hF3) (fun _ hk=>hk))
   have HN:=Aside0.mk hne
   have HGB:=Aside0.mk gb
   clear hcl hM hcc hfr gb gl hblk hne hm2 hF2 hm3 hF3 hix
   go_wp2
   refine bodyPost_ret (results_none (by rfl) _ _ _) rfl ?_
   refine ⟨rfl,.slice (some ⟨go,0,none⟩) o.length n1,?_⟩
   have h2:=HSEG.out.1
   simp only [World.setCells,show k95.sz = 4 from rfl,show ((o.length:Int) - 1).toNat = o.length - 1 by omega] at h2
   exact wrd_seg HS.out HN.out HGB.out h2
  | false =>
   clear hb
   have HD:=Aside0.mk HS.out.drew
   have HFD:=Aside0.mk (Kd.F_drew HF1.out)
   go_upto_region 5 with (fail)
   refine start_ (n:=14) (S:=fun w'=>w'.cell? ⟨g,0,none⟩ = some (.slice A1 o.length n1)) (ds:=[13]) #[false,false,false,false,false,false,false,false,false,false,false,false,false,false] (by kernel_rfl) rfl rfl (((blk_cell HD.out.blk 0).trans rfl)) (fun hHeld=>?_)
   refine pure_ (i:=0) (N:=some 54) (v:=?_) (a':=?_) (bm 1 14) rfl rfl (by kernel_rfl) (fun _ _ _ h=>h) (Or.inl ⟨by rfl,?_⟩) ?_ ?_
   rotate_left
   ·intro w'
    go_simp
    with_reducible rfl
   rotate_left
   ·simp only [Act.put,sA,sB,sC,i64_w,i32_w]
    rfl
   refine pure_ (i:=1) (N:=some 55) (v:=?_) (a':=?_) (bm 3 14) rfl rfl (by kernel_rfl) (fun _ _ _ h=>h) (Or.inl ⟨by rfl,?_⟩) ?_ ?_
   rotate_left
   ·intro w'
    go_simp
    with_reducible rfl
   rotate_left
   ·simp only [Act.put,sA,sB,sC,i64_w,i32_w]
    rfl
   refine pure_ (i:=2) (N:=some 56) (v:=?_) (a':=?_) (bm 7 14) rfl rfl (by kernel_rfl) (fun _ _ _ h=>h) (Or.inl ⟨by rfl,?_⟩) ?_ ?_
   rotate_left
   ·intro w'
    go_simp
    with_reducible rfl
   rotate_left
   ·simp only [Act.put,sA,sB,sC,i64_w,i32_w]
    rfl
   refine pure_ (i:=3) (N:=some 57) (v:=?_) (a':=?_) (bm 15 14) rfl rfl (by kernel_rfl) (fun _ _ _ h=>h) (Or.inl ⟨by rfl,?_⟩) ?_ ?_
   rotate_left
   ·intro w'
    go_simp
    with_reducible rfl
   rotate_left
   ·simp only [Act.put,sA,sB,sC,i64_w,i32_w]
    rfl
   refine pure_ (i:=5) (N:=some 59) (v:=?_) (a':=?_) (bm 47 14) rfl rfl (by kernel_rfl) (fun _ _ _ h=>h) (Or.inl ⟨by rfl,?_⟩) ?_ ?_
   rotate_left
   ·intro w'
    go_simp
    with_reducible rfl
   rotate_left
   ·simp only [Act.put,sA,sB,sC,i64_w,i32_w]
    rfl
   refine pure_ (i:=6) (N:=some 60) (v:=?_) (a':=?_) (bm 111 14) rfl rfl (by kernel_rfl) (fun _ _ _ h=>h) (Or.inl ⟨by rfl,?_⟩) ?_ ?_
   rotate_left
   ·intro w'
    go_simp
    with_reducible rfl
   rotate_left
   ·simp only [Act.put,sA,sB,sC,i64_w,i32_w]
    rfl
   refine take_ (i:=4) (N:=some 58) (v:=?_) (a':=?_) (bm 127 14) rfl rfl (by kernel_rfl) (fun _ _ _ h=>h) (Or.inl ⟨by rfl,?_⟩) hHeld ?_ ?_
   rotate_left
   ·intro w' s0
    go_simp
    with_reducible rfl
   rotate_left
   ·simp only [Act.put,sA,sB,sC,i64_w,i32_w]
    rfl
   refine one_ (i:=7) (N:=some 61) (bm 255 14) rfl rfl (by kernel_rfl) (by decide) (fun K hK=>?_)
   refine Kd.N_append_rows_step k91 (w0:=wc.drew) wc.drew.heap.size (by rfl) (.const (.slice none 0 0)) (.tmp 60) 24 91 (.agg #[.string ⟨#[]⟩,.string ⟨#[]⟩]) 32 rfl Try.underlying24 info91 rfl (by decide) (by decide) (.slice none 0 0) [] attrs _ _ _ (fun _=>True) (Off g (.slice A1 o.length n1) (.slice none 0 0)) (by rfl) (by rfl) (Kd.N_nil _ _ _ _ _) HFD.out (fun _ _=>⟨trivial,by simp [Value.ownBlock]⟩) (fun _ _=>trivial) (Below.refl _ _) (Nat.le_refl _) (by have:=HLA.out;simp only [List.length_nil,Nat.zero_add];exact this) ?_
   intro v3 w3 hN3 hb3 hg3 hat3
   rw [List.nil_append] at hN3
   replace hN3:=n38_tight hN3 (ok':=fun k=>wc.drew.heap.size ≤ k) (fun k hk=>Kd.N_base hN3 k hk)
   obtain ⟨A3,n3,rfl⟩:=Kd.N_slice hN3
   have HD3:=Aside0.mk (HD.out.below hb3)
   have HN3:=Aside0.mk hN3
   clear hN3 hb3 hg3 hat3
   refine hK.out _ _ (((blk_cell HD3.out.blk 0).trans rfl)) (fun hHeld=>?_)
   clear hK K
   refine norm_ (a':=?_) ?_ ?_
   rotate_left
   ·show Act.put _ (some 61) _ = _
    simp only [Act.put,sA,sB,sC,i64_w,i32_w]
    rfl
   refine pure_ (i:=8) (N:=some 62) (v:=?_) (a':=?_) (bm 511 14) rfl rfl (by kernel_rfl) (fun _ _ _ h=>h) (Or.inl ⟨by rfl,?_⟩) ?_ ?_
   rotate_left
   ·intro w'
    go_simp
    with_reducible rfl
   rotate_left
   ·simp only [Act.put,sA,sB,sC,i64_w,i32_w]
    rfl
   refine one_ (i:=9) (N:=some 63) (bm 1023 14) rfl rfl (by kernel_rfl) (by decide) (fun K hK=>?_)
   refine value_ (w1:=?_) (v:=?_) (by rfl) rfl ?_ ?_
   rotate_left 2
   ·go_simp
    constructor
    ·rfl
    ·rfl
   refine hK.out _ _ (((blk_cell (blk_alloc HD3.out.blk _) 0).trans rfl)) (fun hHeld=>?_)
   clear hK K
   refine norm_ (a':=?_) ?_ ?_
   rotate_left
   ·show Act.put _ (some 63) _ = _
    simp only [Act.put,sA,sB,sC,i64_w,i32_w]
    rfl
   refine one_ (i:=10) (N:=some 64) (bm 2047 14) rfl rfl (by kernel_rfl) (by decide) (fun K hK=>?_)
   refine Kd.N_append_step k95 (w0:=w0) w0.heap.size (by rfl) (.tmp 58) (.tmp 63) 28 95 (.agg #[.int .i64 0,.int .i64 0,.slice none 0 0,.slice none 0 0]) 64 rfl Try.underlying28 info95 rfl (by decide) (by decide) _ o ⟨0,n,attrs,[]⟩ [.int .i64 0,.int .i64 n,.slice A3 attrs.length n3,.slice none 0 0] (fun k=>(ok k ∧ k ≠ g) ∧ some k ≠ (Value.slice none 0 0).ownBlock) (fun k=>wc.drew.heap.size ≤ k) (by rfl) (by rfl) (k95_mkF _ _ ⟨0,n,attrs,[]⟩ (Kd.N_reads' HN3.out).2.1 (Kd.N_F HN3.out) (Nat.le_refl 0) (Kd.F_nil _ _ _)) (fun k hk=>⟨⟨(HD.out.fresh HO.out k hk).1.1,by simp [Value.ownBlock]⟩,(HD.out.fresh HO.out k hk).1.2⟩) (fun k hk=>⟨(HD3.out.fresh HO.out k hk).1.1,by simp [Value.ownBlock]⟩) HD3.out.row HD3.out.bel HD3.out.bel.size (by have:=HL.out;omega) ?_
   intro v1 w4 hR1 hB1 hg1 hat
   obtain ⟨A4,n4,rfl⟩:=Kd.N_slice hR1
   obtain ⟨hb1,hW⟩:=HD3.out.appv hR1 hB1 hg1 hat
   have HW:=Aside0.mk hW
   have hd0:w4.cell? ⟨g,0,none⟩ = some (.slice A1 o.length n1):=(blk_cell hb1 0).trans rfl
   have hdf:=blk_frozen hb1 0
   clear hR1 hB1 hg1 hat hb1 hW
   refine hK.out _ _ (hd0) (fun hHeld=>?_)
   clear hK K
   refine norm_ (a':=?_) ?_ ?_
   rotate_left
   ·show Act.put _ (some 64) _ = _
    simp only [Act.put,sA,sB,sC,i64_w,i32_w]
    rfl
   refine pure_ (i:=11) (N:=some 65) (v:=?_) (a':=?_) (bm 4095 14) rfl rfl (by kernel_rfl) (fun _ _ _ h=>h) (Or.inl ⟨by rfl,?_⟩) ?_ ?_
   rotate_left
   ·intro w'
    go_simp
    with_reducible rfl
   rotate_left
   ·simp only [Act.put,sA,sB,sC,i64_w,i32_w]
    rfl
   refine pure_ (i:=12) (N:=some 66) (v:=?_) (a':=?_) (bm 8191 14) rfl rfl (by kernel_rfl) (fun _ _ _ h=>h) (Or.inl ⟨by rfl,?_⟩) ?_ ?_
   rotate_left
   ·intro w'
    go_simp
    with_reducible rfl
   rotate_left
   ·simp only [Act.put,sA,sB,sC,i64_w,i32_w]
    rfl
   refine last_ (i:=13) (N:=none) (bm 16383 14) rfl rfl (by kernel_rfl) (by decide) (fun K hK=>?_)
   refine skip_ (w1:=?_) (by rfl) rfl ?_ ?_
   rotate_left
   ·go_simp
    rfl
   refine hK.out _ _ ?_
   clear hK K
   refine done_ (by kernel_rfl) ?_
   go_wp2
   go_end0
   exact ⟨rfl,_,by have:=HW.out;rw [List.length_append] at this;exact this⟩
structure WD where
 out:List S95
 add:List S26
 cut:Int
def keepF (k:Nat) (s:WD) (n:Int) (attrs:List S91):Option WD :=
 if n = 0 then some s else if 1099511627776 < s.out.length ∨ 1099511627776 < attrs.length then none else (keepB k (flushD s.out s.add s.cut) attrs).bind fun b=>some ⟨keepO (flushD s.out s.add s.cut) n attrs b,[],0⟩
def elemsF (k:Nat) (s:WD) (l:List S26):Option WD :=
 (flow_Copy.f k l).bind fun r=>if 1099511627776 < s.add.length + r.length then none else some ⟨s.out,s.add ++ r,s.cut⟩
def doneD (k:Nat) (s:WD):Option (List S95 × Int) :=
 if 1099511627776 < s.out.length then none else (delta_Check.f k (flushD s.out s.add s.cut)).bind fun e=>if e ≠ 0 then some ([],3) else some (flushD s.out s.add s.cut,0)
def WrS (ok:Nat → Prop) (w0 wI:World) (g:Nat) (vI uI:Value) (s:WD) (v u:Value) (w:World):Prop:=WrD ok w0 wI g vI uI s.out s.add s.cut v u w
theorem keepF_calls (ok:Nat → Prop) (w0:World) (g:Nat) (s s':WD) (n:Int) (vI uI:Value) (w:World) (k:Nat) (A:Option Addr) (c:Nat) (attrs:List S91) (h:WrS ok w0 w g vI uI s vI uI w) (hok:∀ k,w.heap.size ≤ k → ok k)
 (hF:Kd.F k91 w (Off g vI uI) A attrs.length attrs) (hc:attrs.length ≤ c) (hf:keepF k s n attrs = some s') :
 Calls Try.prog 124 #[.pointer (some ⟨g,0,none⟩),.int .i64 n,.slice A attrs.length c] w fun e w'=>e = .returned (.tuple #[]) ∧ ∃ v u,WrS ok w0 w g vI uI s' v u w':=by
 rw [keepF] at hf
 by_cases c1:n = 0
 ·rw [if_pos c1] at hf
  injection hf with hf
  subst hf
  subst c1
  exact (keep_zero ok w0 g s.out s.add s.cut vI uI w A c attrs h).mono (fun e w' ⟨he,hw⟩=>⟨he,vI,uI,hw⟩)
 ·rw [if_neg c1] at hf
  by_cases c2:1099511627776 < s.out.length ∨ 1099511627776 < attrs.length
  ·rw [if_pos c2] at hf
   cases hf
  rw [if_neg c2] at hf
  obtain ⟨b,hb,hf⟩:=Option.bind_eq_some_iff.1 hf
  injection hf with hf
  subst hf
  exact (keep_calls ok w0 g s.out s.add s.cut n vI uI w k A c attrs b h hok hF hc (by omega) (by omega) c1 hb).mono (fun e w' ⟨he,v,hw⟩=>⟨he,v,_,hw⟩)
theorem elemsF_calls (ok:Nat → Prop) (w0:World) (g:Nat) (s s':WD) (vI uI:Value) (w:World) (k:Nat) (A:Option Addr) (c:Nat) (l:List S26) (h:WrS ok w0 w g vI uI s vI uI w) (hok:∀ k,w.heap.size ≤ k → ok k)
 (hr:Kd.C k26 w A l.length l) (hc:l.length ≤ c) (hf:elemsF k s l = some s') :
 Calls Try.prog 125 #[.pointer (some ⟨g,0,none⟩),.slice A l.length c] w fun e w'=>e = .returned (.tuple #[]) ∧ ∃ v u,WrS ok w0 w g vI uI s' v u w':=by
 obtain ⟨r,hr2,hf⟩:=Option.bind_eq_some_iff.1 hf
 by_cases c2:1099511627776 < s.add.length + r.length
 ·rw [if_pos c2] at hf
  cases hf
 rw [if_neg c2] at hf
 injection hf with hf
 subst hf
 exact (elems_calls ok w0 g s.out s.add s.cut vI uI w k A c l r h hok hr hc hr2 (by omega)).mono (fun e w' ⟨he,u,hw⟩=>⟨he,_,u,hw⟩)
set_option maxRecDepth 100000 in
set_option maxHeartbeats 4000000 in
theorem doneD_calls (ok:Nat → Prop) (w0:World) (g:Nat) (s:WD) (r1:List S95) (r2:Int) (vI uI:Value) (w:World) (k:Nat) (h:WrS ok w0 w g vI uI s vI uI w) (hok:∀ k,w.heap.size ≤ k → ok k) (hf:doneD k s = some (r1,r2)) :
 Calls Try.prog 126 #[.pointer (some ⟨g,0,none⟩)] w fun e w'=>∃ v,e = .returned (.tuple #[v,.int .i64 r2]) ∧ Kd.N k95 95 w' w0.heap.size (fun k=>ok k ∧ k ≠ g) v r1 ∧ Below w0.heap.size w0 w' ∧ ∃ vM,Moves2 w w' g vI uI vM (.slice none 0 0) ∧ (v.ownBlock = none ∨ v = vM):=by
 have hu95:=Try.underlying95
 have hu193:=Try.underlying193
 rw [doneD] at hf
 by_cases c2:1099511627776 < s.out.length
 ·rw [if_pos c2] at hf
  cases hf
 rw [if_neg c2] at hf
 have HF:=Aside0.mk (flush_calls ok w0 g s.out s.add s.cut vI uI w h hok (by omega))
 obtain ⟨o,ho⟩:∃ o,o = flushD s.out s.add s.cut:=⟨_,rfl⟩
 rw [← ho] at HF hf
 clear ho h hok c2
 replace hf:=Option.bind_eq_some_iff.1 hf
 obtain ⟨e,he,hf⟩:=hf
 have HE:=Aside0.mk he
 clear he
 by_cases c1:e ≠ 0
 ·rw [if_pos c1] at hf
  have c1b:(e != 0) = true:=bne_iff_ne.mpr c1
  simp only [Option.some.injEq,Prod.mk.injEq] at hf
  obtain ⟨rfl,rfl⟩:=hf
  clear c1
  go_enter Try.func126,Try.ntmps126
  go_wp2_with (go_at_call 158;refine HF.out.mono ?_)
  rintro e1 w1 ⟨rfl,v,hS⟩
  obtain ⟨A1,n1,rfl⟩:=Kd.N_slice hS.row
  have HS:=Aside0.mk hS
  have hc0:w1.cell? ⟨g,0,none⟩ = some (.slice A1 o.length n1):=(blk_cell HS.out.blk 0).trans rfl
  clear hS HF
  go_wp2_with (go_at_call 67;(with_reducible refine (delta_Check.calls k _ _ o e _ (Kd.N_reads' HS.out.row).2.2 (Kd.N_reads' HS.out.row).2.1 HE.out).mono ?_);rintro e1 w2 ⟨rfl,hb⟩;have HB2:=Aside0.mk hb;clear hb)
  go_ret2
  refine ⟨_,rfl,Kd.N_nil _ _ _ _ _,below_step HS.out.bel HB2.out,_,(HS.out.below HB2.out).mv,.inl rfl⟩
 ·rw [if_neg c1] at hf
  have c1b:(e != 0) = false:=by simpa using c1
  simp only [Option.some.injEq,Prod.mk.injEq] at hf
  obtain ⟨rfl,rfl⟩:=hf
  clear c1
  go_enter Try.func126,Try.ntmps126
  go_wp2_with (go_at_call 158;refine HF.out.mono ?_)
  rintro e1 w1 ⟨rfl,v,hS⟩
  obtain ⟨A1,n1,rfl⟩:=Kd.N_slice hS.row
  have HS:=Aside0.mk hS
  have hc0:w1.cell? ⟨g,0,none⟩ = some (.slice A1 o.length n1):=(blk_cell HS.out.blk 0).trans rfl
  have hglt:=blk_lt hS.blk
  clear hS HF
  go_wp2_with (go_at_call 67;(with_reducible refine (delta_Check.calls k _ _ o e _ (Kd.N_reads' HS.out.row).2.2 (Kd.N_reads' HS.out.row).2.1 HE.out).mono ?_);rintro e1 w2 ⟨rfl,hb⟩;have HB2:=Aside0.mk hb;clear hb;replace hc0:=(HB2.out.cell hglt).trans hc0)
  go_ret2
  exact ⟨_,rfl,(HS.out.below HB2.out).weak.row,below_step HS.out.bel HB2.out,_,(HS.out.below HB2.out).mv,.inr rfl⟩
end Go.Proofs.Ytlcodfjlbhjkbaa.PDelta
end

/- Parts of the proof of One: nothing is claimed here by itself. -/
import Derived.Test.YtlcodfjlbhjkbaaKOne6
import Derived.StillTailTactics
set_option linter.unusedVariables false
set_option linter.unusedSimpArgs false
section
namespace Go.Proofs.Ytlcodfjlbhjkbaa.PDelta
open Go.RowKit Go.Proofs.YtlcodfjlbhjkbaaW.PrintWords Go.Proofs.YtlcodfjlbhjkbaaW.PrintLast Go.Proofs.YtlcodfjlbhjkbaaW.PrintMore
attribute [local go_sem] max2_int min2_int max_two min_two max_three min_three max_four min_four
attribute [local go_sem high] Go.Proofs.Ytlcodfjlbhjkbaa.Ord.leq_str Go.Proofs.Ytlcodfjlbhjkbaa.Ord.gtr_str Go.Proofs.Ytlcodfjlbhjkbaa.Ord.geq_str
noncomputable section
attribute [local go_sem high] eqA91
def chancerykeep1_merges.f (k:Nat) :Option (Bool):=(chancerykeep1_letters.f k (⟨#[97,98]⟩:ByteArray)).bind fun t293=>((chancerykeep1_letters.f k (⟨#[97,120,98]⟩:ByteArray)).bind fun t296=>((chancerykeep1_letters.f k (⟨#[97,98]⟩:ByteArray)).bind fun t299=>((merge_Flows.f t293 t296 t299).bind fun bt302=>(if bt302.2.2 = 0 then ((chancerykeep1_letters.f k (⟨#[97,120,98]⟩:ByteArray)).bind fun t309=>((chanceryref1_SameFlow.f k bt302.1 t309).bind fun t312=>(if t312 = true then (some ((bt302.2.1.length:Int) == 0)) else (some false)))) else (some false)))))
set_option maxHeartbeats 8000000 in
set_option maxRecDepth 100000 in
theorem chancerykeep1_merges.calls (k:Nat)  (r:Bool) (w:World) (h:chancerykeep1_merges.f k  = some r) :
 Calls Try.prog 25 #[] w fun e w'=>e = .returned (.bool r) ∧ Below w.heap.size w w':=by
 have HB:=Aside0.mk (Below.refl w.heap.size w)
 have H:((chancerykeep1_letters.f k (⟨#[97,98]⟩:ByteArray)).bind fun t293=>((chancerykeep1_letters.f k (⟨#[97,120,98]⟩:ByteArray)).bind fun t296=>((chancerykeep1_letters.f k (⟨#[97,98]⟩:ByteArray)).bind fun t299=>((merge_Flows.f t293 t296 t299).bind fun bt302=>(if bt302.2.2 = 0 then ((chancerykeep1_letters.f k (⟨#[97,120,98]⟩:ByteArray)).bind fun t309=>((chanceryref1_SameFlow.f k bt302.1 t309).bind fun t312=>(if t312 = true then (some ((bt302.2.1.length:Int) == 0)) else (some false)))) else (some false)))))) = some r:=h
 clear h
 replace H:=Option.bind_eq_some_iff.mp H
 obtain ⟨t293,A10,H⟩:=H
 replace H:((chancerykeep1_letters.f k (⟨#[97,120,98]⟩:ByteArray)).bind fun t296=>((chancerykeep1_letters.f k (⟨#[97,98]⟩:ByteArray)).bind fun t299=>((merge_Flows.f t293 t296 t299).bind fun bt302=>(if bt302.2.2 = 0 then ((chancerykeep1_letters.f k (⟨#[97,120,98]⟩:ByteArray)).bind fun t309=>((chanceryref1_SameFlow.f k bt302.1 t309).bind fun t312=>(if t312 = true then (some ((bt302.2.1.length:Int) == 0)) else (some false)))) else (some false))))) = some r:=H
 have A1:=Aside0.mk A10
 clear A10
 replace H:=Option.bind_eq_some_iff.mp H
 obtain ⟨t296,A20,H⟩:=H
 replace H:((chancerykeep1_letters.f k (⟨#[97,98]⟩:ByteArray)).bind fun t299=>((merge_Flows.f t293 t296 t299).bind fun bt302=>(if bt302.2.2 = 0 then ((chancerykeep1_letters.f k (⟨#[97,120,98]⟩:ByteArray)).bind fun t309=>((chanceryref1_SameFlow.f k bt302.1 t309).bind fun t312=>(if t312 = true then (some ((bt302.2.1.length:Int) == 0)) else (some false)))) else (some false)))) = some r:=H
 have A2:=Aside0.mk A20
 clear A20
 replace H:=Option.bind_eq_some_iff.mp H
 obtain ⟨t299,A30,H⟩:=H
 replace H:((merge_Flows.f t293 t296 t299).bind fun bt302=>(if bt302.2.2 = 0 then ((chancerykeep1_letters.f k (⟨#[97,120,98]⟩:ByteArray)).bind fun t309=>((chanceryref1_SameFlow.f k bt302.1 t309).bind fun t312=>(if t312 = true then (some ((bt302.2.1.length:Int) == 0)) else (some false)))) else (some false))) = some r:=H
 have A3:=Aside0.mk A30
 clear A30
 replace H:=Option.bind_eq_some_iff.mp H
 obtain ⟨⟨t302,t303,t304⟩,A40,H⟩:=H
 replace H:(if t304 = 0 then ((chancerykeep1_letters.f k (⟨#[97,120,98]⟩:ByteArray)).bind fun t309=>((chanceryref1_SameFlow.f k t302 t309).bind fun t312=>(if t312 = true then (some ((t303.length:Int) == 0)) else (some false)))) else (some false)) = some r:=H
 have A4:=Aside0.mk A40
 clear A40
 by_cases c5:t304 = 0
 ·rw [if_pos c5] at H
  have c5b0:(t304 == 0) = true:=beq_iff_eq.mpr c5
  have c5b1:(t304 != 0) = false:=bne_eq_false_iff_eq.mpr c5
  clear c5
  replace H:=Option.bind_eq_some_iff.mp H
  obtain ⟨t309,A60,H⟩:=H
  replace H:((chanceryref1_SameFlow.f k t302 t309).bind fun t312=>(if t312 = true then (some ((t303.length:Int) == 0)) else (some false))) = some r:=H
  have A6:=Aside0.mk A60
  clear A60
  replace H:=Option.bind_eq_some_iff.mp H
  obtain ⟨t312,A70,H⟩:=H
  replace H:(if t312 = true then (some ((t303.length:Int) == 0)) else (some false)) = some r:=H
  have A7:=Aside0.mk A70
  clear A70
  by_cases c8:t312 = true
  ·subst c8
   have H1:(some ((t303.length:Int) == 0)) = some r:=by rw [if_pos rfl] at H;exact H
   clear H
   have H:=H1
   clear H1
   obtain rfl:=Option.some.inj H
   go_enter Try.func25,Try.ntmps25
   go_wp2_with (first | ((with_reducible refine gate_callee (f:=48) rfl ?_);refine goesL_ (some 5) rfl rfl Try.func48 (by kernel_rfl) rfl #[.string (⟨#[97,98]⟩:ByteArray)] rfl (by (try simp only [List.map_toArray,List.map_cons,List.map_nil]);rfl) ?_;(with_reducible refine (chancerykeep1_letters.calls k (⟨#[97,98]⟩:ByteArray) t293 _ A1.out).mono ?_);rintro e w9 ⟨v294,rfl,ho0,hb⟩;refine ⟨_,rfl,?_⟩;have n0_:=Aside0.mk (Kd.N_lower (Kd.N_mono (ok':=fun k_=>True) (Kd.S_N (Kd.S_bound ho0)) (fun k_ hk_=>trivial)) (below_size (by with_reducible exact HB.out)));have n1_:=Aside0.mk (below_step (by with_reducible exact HB.out) hb);clear HB;have HO295:=n0_;have HB:=n1_;clear n0_ n1_;(try clear hb);(try clear hb2);(try clear hk);(try clear hi);(try clear ho0)) | ((with_reducible refine gate_callee (f:=48) rfl ?_);refine goesL_ (some 6) rfl rfl Try.func48 (by kernel_rfl) rfl #[.string (⟨#[97,120,98]⟩:ByteArray)] rfl (by (try simp only [List.map_toArray,List.map_cons,List.map_nil]);rfl) ?_;(with_reducible refine (chancerykeep1_letters.calls k (⟨#[97,120,98]⟩:ByteArray) t296 _ A2.out).mono ?_);rintro e w10 ⟨v297,rfl,ho0,hb⟩;refine ⟨_,rfl,?_⟩;have n0_:=Aside0.mk (Kd.N_elder' HO295.out (Kd.N_base (by exact Kd.S_N ho0)) hb);have n1_:=Aside0.mk (Kd.N_lower (Kd.N_mono (ok':=fun k_=>some k_ ≠ (v294:Value).ownBlock) (Kd.S_N (Kd.S_bound ho0)) (fun k_ hk_=>(Kd.fresh' (Kd.N_lt HO295.out) k_ hk_.2.1))) (below_size (by with_reducible exact HB.out)));have n2_:=Aside0.mk (below_step (by with_reducible exact HB.out) hb);clear HO295;clear HB;have HO295:=n0_;have HO298:=n1_;have HB:=n2_;clear n0_ n1_ n2_;(try clear hb);(try clear hb2);(try clear hk);(try clear hi);(try clear ho0)) | ((with_reducible refine gate_callee (f:=48) rfl ?_);refine goesL_ (some 7) rfl rfl Try.func48 (by kernel_rfl) rfl #[.string (⟨#[97,98]⟩:ByteArray)] rfl (by (try simp only [List.map_toArray,List.map_cons,List.map_nil]);rfl) ?_;(with_reducible refine (chancerykeep1_letters.calls k (⟨#[97,98]⟩:ByteArray) t299 _ A3.out).mono ?_);rintro e w11 ⟨v300,rfl,ho0,hb⟩;refine ⟨_,rfl,?_⟩;have n0_:=Aside0.mk (Kd.N_elder' HO295.out (Kd.N_base (by exact Kd.S_N ho0)) hb);have n1_:=Aside0.mk (Kd.N_elder' HO298.out (Kd.N_base (by exact Kd.S_N ho0)) hb);have n2_:=Aside0.mk (Kd.N_lower (Kd.N_mono (ok':=fun k_=>some k_ ≠ (v294:Value).ownBlock ∧ some k_ ≠ (v297:Value).ownBlock) (Kd.S_N (Kd.S_bound ho0)) (fun k_ hk_=>⟨(Kd.fresh' (Kd.N_lt HO295.out) k_ hk_.2.1),(Kd.fresh' (Kd.N_lt HO298.out) k_ hk_.2.1)⟩)) (below_size (by with_reducible exact HB.out)));have n3_:=Aside0.mk (below_step (by with_reducible exact HB.out) hb);clear HO295;clear HO298;clear HB;have HO295:=n0_;have HO298:=n1_;have HO301:=n2_;have HB:=n3_;clear n0_ n1_ n2_ n3_;(try clear hb);(try clear hb2);(try clear hk);(try clear hi);(try clear ho0);obtain ⟨Ao12,co12,eo12⟩:=Kd.N_slice HO295.out;subst eo12;obtain ⟨Ao13,co13,eo13⟩:=Kd.N_slice HO298.out;subst eo13;obtain ⟨Ao14,co14,eo14⟩:=Kd.N_slice HO301.out;subst eo14) | ((with_reducible refine gate_callee (f:=27) rfl ?_);refine goesL_ (some 8) rfl rfl Try.func27 (by kernel_rfl) rfl #[.slice Ao12 t293.length co12,.slice Ao13 t296.length co13,.slice Ao14 t299.length co14] rfl (by (try simp only [List.map_toArray,List.map_cons,List.map_nil]);rfl) ?_;(with_reducible refine (merge_Flows.calls _ _ t293 _ _ t296 _ _ t299 t302 t303 t304 _ ?side1 ?side2 ?side3 ?side4 ?side5 ?side6 A4.out).mono ?_);(case side1=>repeat (exact (Kd.N_reads' HO295.out).2.2));(case side2=>exact (Kd.N_reads' HO295.out).2.1);(case side3=>repeat (exact (Kd.N_reads' HO298.out).2.2));(case side4=>exact (Kd.N_reads' HO298.out).2.1);(case side5=>repeat (exact (Kd.N_reads' HO301.out).2.2));(case side6=>exact (Kd.N_reads' HO301.out).2.1);rintro e w15 ⟨v305,v307,rfl,ho0,ho1,hb⟩;refine ⟨_,rfl,?_⟩;have n0_:=Aside0.mk (Kd.N_mono (Kd.N_told (Kd.N_told (Kd.N_old HO295.out hb) (Kd.N_base ho0)) (Kd.R_base ho1)) (fun _ h_=>h_.1));have n1_:=Aside0.mk (Kd.N_mono (Kd.N_told (Kd.N_told (Kd.N_old HO298.out hb) (Kd.N_base ho0)) (Kd.R_base ho1)) (fun _ h_=>h_.1));have n2_:=Aside0.mk (Kd.N_mono (Kd.N_told (Kd.N_told (Kd.N_old HO301.out hb) (Kd.N_base ho0)) (Kd.R_base ho1)) (fun _ h_=>h_.1));have n3_:=Aside0.mk (Kd.N_lower (Kd.N_mono (ok':=fun k_=>True) ho0 (fun k_ hk_=>trivial)) (below_size (by with_reducible exact HB.out)));have n4_:=Aside0.mk (Kd.R_lower ho1 (below_size (by with_reducible exact HB.out)));have n5_:=Aside0.mk (below_step (by with_reducible exact HB.out) hb);clear HO295;clear HO298;clear HO301;clear HB;have HO295:=n0_;have HO298:=n1_;have HO301:=n2_;have HO306:=n3_;have HO308:=n4_;have HB:=n5_;clear n0_ n1_ n2_ n3_ n4_ n5_;(try clear hb);(try clear hb2);(try clear hk);(try clear hi);(try clear ho0);(try clear ho1)) | (go_at_call 48;(with_reducible refine (chancerykeep1_letters.calls k (⟨#[97,120,98]⟩:ByteArray) t309 _ A6.out).mono ?_);rintro e w16 ⟨v310,rfl,ho0,hb⟩;have n0_:=Aside0.mk (Kd.N_elder' HO295.out (Kd.N_base (by exact Kd.S_N ho0)) hb);have n1_:=Aside0.mk (Kd.N_elder' HO298.out (Kd.N_base (by exact Kd.S_N ho0)) hb);have n2_:=Aside0.mk (Kd.N_elder' HO301.out (Kd.N_base (by exact Kd.S_N ho0)) hb);have n3_:=Aside0.mk (Kd.N_elder' HO306.out (Kd.N_base (by exact Kd.S_N ho0)) hb);have n4_:=Aside0.mk (Kd.R_below HO308.out hb);have n5_:=Aside0.mk (Kd.N_lower (Kd.N_mono (ok':=fun k_=>some k_ ≠ (.slice Ao12 t293.length co12:Value).ownBlock ∧ some k_ ≠ (.slice Ao13 t296.length co13:Value).ownBlock ∧ some k_ ≠ (.slice Ao14 t299.length co14:Value).ownBlock ∧ some k_ ≠ (v305:Value).ownBlock ∧ some k_ ≠ (v307:Value).ownBlock) (Kd.S_N (Kd.S_bound ho0)) (fun k_ hk_=>⟨(Kd.fresh' (Kd.N_lt HO295.out) k_ hk_.2.1),(Kd.fresh' (Kd.N_lt HO298.out) k_ hk_.2.1),(Kd.fresh' (Kd.N_lt HO301.out) k_ hk_.2.1),(Kd.fresh' (Kd.N_lt HO306.out) k_ hk_.2.1),(Kd.fresh' (Kd.R_lt HO308.out) k_ hk_.2.1)⟩)) (below_size (by with_reducible exact HB.out)));have n6_:=Aside0.mk (below_step (by with_reducible exact HB.out) hb);clear HO295;clear HO298;clear HO301;clear HO306;clear HO308;clear HB;have HO295:=n0_;have HO298:=n1_;have HO301:=n2_;have HO306:=n3_;have HO308:=n4_;have HO311:=n5_;have HB:=n6_;clear n0_ n1_ n2_ n3_ n4_ n5_ n6_;(try clear hb);(try clear hb2);(try clear hk);(try clear hi);(try clear ho0);obtain ⟨Ao17,co17,eo17⟩:=Kd.N_slice HO306.out;subst eo17;obtain ⟨Ao18,co18,eo18⟩:=Kd.N_slice HO311.out;subst eo18) | (go_at_call 28;(with_reducible refine (chanceryref1_SameFlow.calls k _ _ t302 _ _ t309 true _ ?side1 ?side2 ?side3 ?side4 A7.out).mono ?_);(case side1=>repeat (exact (Kd.N_reads' HO306.out).2.2));(case side2=>exact (Kd.N_reads' HO306.out).2.1);(case side3=>repeat (exact (Kd.N_reads' HO311.out).2.2));(case side4=>exact (Kd.N_reads' HO311.out).2.1);rintro e w19 ⟨rfl,hb⟩;have n0_:=Aside0.mk (Kd.N_below HO295.out hb);have n1_:=Aside0.mk (Kd.N_below HO298.out hb);have n2_:=Aside0.mk (Kd.N_below HO301.out hb);have n3_:=Aside0.mk (Kd.N_below HO306.out hb);have n4_:=Aside0.mk (Kd.R_below HO308.out hb);have n5_:=Aside0.mk (Kd.N_below HO311.out hb);have n6_:=Aside0.mk (below_step (by with_reducible exact HB.out) hb);clear HO295;clear HO298;clear HO301;clear HO306;clear HO308;clear HO311;clear HB;have HO295:=n0_;have HO298:=n1_;have HO301:=n2_;have HO306:=n3_;have HO308:=n4_;have HO311:=n5_;have HB:=n6_;clear n0_ n1_ n2_ n3_ n4_ n5_ n6_;(try clear hb);(try clear hb2);(try clear hk);(try clear hi);obtain ⟨Ao20,co20,eo20⟩:=Kd.R_slice HO308.out;subst eo20))
   go_ret
   exact ⟨by rfl,HB.out⟩
  ·replace c8:=Bool.eq_false_iff.mpr c8
   subst c8
   have H1:(some false) = some r:=by rw [if_neg (show ¬ (false = true) by decide)] at H;exact H
   clear H
   have H:=H1
   clear H1
   obtain rfl:=Option.some.inj H
   go_enter Try.func25,Try.ntmps25
   go_wp2_with (first | ((with_reducible refine gate_callee (f:=48) rfl ?_);refine goesL_ (some 5) rfl rfl Try.func48 (by kernel_rfl) rfl #[.string (⟨#[97,98]⟩:ByteArray)] rfl (by (try simp only [List.map_toArray,List.map_cons,List.map_nil]);rfl) ?_;(with_reducible refine (chancerykeep1_letters.calls k (⟨#[97,98]⟩:ByteArray) t293 _ A1.out).mono ?_);rintro e w21 ⟨v294,rfl,ho0,hb⟩;refine ⟨_,rfl,?_⟩;have n0_:=Aside0.mk (Kd.N_lower (Kd.N_mono (ok':=fun k_=>True) (Kd.S_N (Kd.S_bound ho0)) (fun k_ hk_=>trivial)) (below_size (by with_reducible exact HB.out)));have n1_:=Aside0.mk (below_step (by with_reducible exact HB.out) hb);clear HB;have HO295:=n0_;have HB:=n1_;clear n0_ n1_;(try clear hb);(try clear hb2);(try clear hk);(try clear hi);(try clear ho0)) | ((with_reducible refine gate_callee (f:=48) rfl ?_);refine goesL_ (some 6) rfl rfl Try.func48 (by kernel_rfl) rfl #[.string (⟨#[97,120,98]⟩:ByteArray)] rfl (by (try simp only [List.map_toArray,List.map_cons,List.map_nil]);rfl) ?_;(with_reducible refine (chancerykeep1_letters.calls k (⟨#[97,120,98]⟩:ByteArray) t296 _ A2.out).mono ?_);rintro e w22 ⟨v297,rfl,ho0,hb⟩;refine ⟨_,rfl,?_⟩;have n0_:=Aside0.mk (Kd.N_elder' HO295.out (Kd.N_base (by exact Kd.S_N ho0)) hb);have n1_:=Aside0.mk (Kd.N_lower (Kd.N_mono (ok':=fun k_=>some k_ ≠ (v294:Value).ownBlock) (Kd.S_N (Kd.S_bound ho0)) (fun k_ hk_=>(Kd.fresh' (Kd.N_lt HO295.out) k_ hk_.2.1))) (below_size (by with_reducible exact HB.out)));have n2_:=Aside0.mk (below_step (by with_reducible exact HB.out) hb);clear HO295;clear HB;have HO295:=n0_;have HO298:=n1_;have HB:=n2_;clear n0_ n1_ n2_;(try clear hb);(try clear hb2);(try clear hk);(try clear hi);(try clear ho0)) | ((with_reducible refine gate_callee (f:=48) rfl ?_);refine goesL_ (some 7) rfl rfl Try.func48 (by kernel_rfl) rfl #[.string (⟨#[97,98]⟩:ByteArray)] rfl (by (try simp only [List.map_toArray,List.map_cons,List.map_nil]);rfl) ?_;(with_reducible refine (chancerykeep1_letters.calls k (⟨#[97,98]⟩:ByteArray) t299 _ A3.out).mono ?_);rintro e w23 ⟨v300,rfl,ho0,hb⟩;refine ⟨_,rfl,?_⟩;have n0_:=Aside0.mk (Kd.N_elder' HO295.out (Kd.N_base (by exact Kd.S_N ho0)) hb);have n1_:=Aside0.mk (Kd.N_elder' HO298.out (Kd.N_base (by exact Kd.S_N ho0)) hb);have n2_:=Aside0.mk (Kd.N_lower (Kd.N_mono (ok':=fun k_=>some k_ ≠ (v294:Value).ownBlock ∧ some k_ ≠ (v297:Value).ownBlock) (Kd.S_N (Kd.S_bound ho0)) (fun k_ hk_=>⟨(Kd.fresh' (Kd.N_lt HO295.out) k_ hk_.2.1),(Kd.fresh' (Kd.N_lt HO298.out) k_ hk_.2.1)⟩)) (below_size (by with_reducible exact HB.out)));have n3_:=Aside0.mk (below_step (by with_reducible exact HB.out) hb);clear HO295;clear HO298;clear HB;have HO295:=n0_;have HO298:=n1_;have HO301:=n2_;have HB:=n3_;clear n0_ n1_ n2_ n3_;(try clear hb);(try clear hb2);(try clear hk);(try clear hi);(try clear ho0);obtain ⟨Ao24,co24,eo24⟩:=Kd.N_slice HO295.out;subst eo24;obtain ⟨Ao25,co25,eo25⟩:=Kd.N_slice HO298.out;subst eo25;obtain ⟨Ao26,co26,eo26⟩:=Kd.N_slice HO301.out;subst eo26) | ((with_reducible refine gate_callee (f:=27) rfl ?_);refine goesL_ (some 8) rfl rfl Try.func27 (by kernel_rfl) rfl #[.slice Ao24 t293.length co24,.slice Ao25 t296.length co25,.slice Ao26 t299.length co26] rfl (by (try simp only [List.map_toArray,List.map_cons,List.map_nil]);rfl) ?_;(with_reducible refine (merge_Flows.calls _ _ t293 _ _ t296 _ _ t299 t302 t303 t304 _ ?side1 ?side2 ?side3 ?side4 ?side5 ?side6 A4.out).mono ?_);(case side1=>repeat (exact (Kd.N_reads' HO295.out).2.2));(case side2=>exact (Kd.N_reads' HO295.out).2.1);(case side3=>repeat (exact (Kd.N_reads' HO298.out).2.2));(case side4=>exact (Kd.N_reads' HO298.out).2.1);(case side5=>repeat (exact (Kd.N_reads' HO301.out).2.2));(case side6=>exact (Kd.N_reads' HO301.out).2.1);rintro e w27 ⟨v305,v307,rfl,ho0,ho1,hb⟩;refine ⟨_,rfl,?_⟩;have n0_:=Aside0.mk (Kd.N_mono (Kd.N_told (Kd.N_told (Kd.N_old HO295.out hb) (Kd.N_base ho0)) (Kd.R_base ho1)) (fun _ h_=>h_.1));have n1_:=Aside0.mk (Kd.N_mono (Kd.N_told (Kd.N_told (Kd.N_old HO298.out hb) (Kd.N_base ho0)) (Kd.R_base ho1)) (fun _ h_=>h_.1));have n2_:=Aside0.mk (Kd.N_mono (Kd.N_told (Kd.N_told (Kd.N_old HO301.out hb) (Kd.N_base ho0)) (Kd.R_base ho1)) (fun _ h_=>h_.1));have n3_:=Aside0.mk (Kd.N_lower (Kd.N_mono (ok':=fun k_=>True) ho0 (fun k_ hk_=>trivial)) (below_size (by with_reducible exact HB.out)));have n4_:=Aside0.mk (Kd.R_lower ho1 (below_size (by with_reducible exact HB.out)));have n5_:=Aside0.mk (below_step (by with_reducible exact HB.out) hb);clear HO295;clear HO298;clear HO301;clear HB;have HO295:=n0_;have HO298:=n1_;have HO301:=n2_;have HO306:=n3_;have HO308:=n4_;have HB:=n5_;clear n0_ n1_ n2_ n3_ n4_ n5_;(try clear hb);(try clear hb2);(try clear hk);(try clear hi);(try clear ho0);(try clear ho1)) | (go_at_call 48;(with_reducible refine (chancerykeep1_letters.calls k (⟨#[97,120,98]⟩:ByteArray) t309 _ A6.out).mono ?_);rintro e w28 ⟨v310,rfl,ho0,hb⟩;have n0_:=Aside0.mk (Kd.N_elder' HO295.out (Kd.N_base (by exact Kd.S_N ho0)) hb);have n1_:=Aside0.mk (Kd.N_elder' HO298.out (Kd.N_base (by exact Kd.S_N ho0)) hb);have n2_:=Aside0.mk (Kd.N_elder' HO301.out (Kd.N_base (by exact Kd.S_N ho0)) hb);have n3_:=Aside0.mk (Kd.N_elder' HO306.out (Kd.N_base (by exact Kd.S_N ho0)) hb);have n4_:=Aside0.mk (Kd.R_below HO308.out hb);have n5_:=Aside0.mk (Kd.N_lower (Kd.N_mono (ok':=fun k_=>some k_ ≠ (.slice Ao24 t293.length co24:Value).ownBlock ∧ some k_ ≠ (.slice Ao25 t296.length co25:Value).ownBlock ∧ some k_ ≠ (.slice Ao26 t299.length co26:Value).ownBlock ∧ some k_ ≠ (v305:Value).ownBlock ∧ some k_ ≠ (v307:Value).ownBlock) (Kd.S_N (Kd.S_bound ho0)) (fun k_ hk_=>⟨(Kd.fresh' (Kd.N_lt HO295.out) k_ hk_.2.1),(Kd.fresh' (Kd.N_lt HO298.out) k_ hk_.2.1),(Kd.fresh' (Kd.N_lt HO301.out) k_ hk_.2.1),(Kd.fresh' (Kd.N_lt HO306.out) k_ hk_.2.1),(Kd.fresh' (Kd.R_lt HO308.out) k_ hk_.2.1)⟩)) (below_size (by with_reducible exact HB.out)));have n6_:=Aside0.mk (below_step (by with_reducible exact HB.out) hb);clear HO295;clear HO298;clear HO301;clear HO306;clear HO308;clear HB;have HO295:=n0_;have HO298:=n1_;have HO301:=n2_;have HO306:=n3_;have HO308:=n4_;have HO311:=n5_;have HB:=n6_;clear n0_ n1_ n2_ n3_ n4_ n5_ n6_;(try clear hb);(try clear hb2);(try clear hk);(try clear hi);(try clear ho0);obtain ⟨Ao29,co29,eo29⟩:=Kd.N_slice HO306.out;subst eo29;obtain ⟨Ao30,co30,eo30⟩:=Kd.N_slice HO311.out;subst eo30) | (go_at_call 28;(with_reducible refine (chanceryref1_SameFlow.calls k _ _ t302 _ _ t309 false _ ?side1 ?side2 ?side3 ?side4 A7.out).mono ?_);(case side1=>repeat (exact (Kd.N_reads' HO306.out).2.2));(case side2=>exact (Kd.N_reads' HO306.out).2.1);(case side3=>repeat (exact (Kd.N_reads' HO311.out).2.2));(case side4=>exact (Kd.N_reads' HO311.out).2.1);rintro e w31 ⟨rfl,hb⟩;have n0_:=Aside0.mk (Kd.N_below HO295.out hb);have n1_:=Aside0.mk (Kd.N_below HO298.out hb);have n2_:=Aside0.mk (Kd.N_below HO301.out hb);have n3_:=Aside0.mk (Kd.N_below HO306.out hb);have n4_:=Aside0.mk (Kd.R_below HO308.out hb);have n5_:=Aside0.mk (Kd.N_below HO311.out hb);have n6_:=Aside0.mk (below_step (by with_reducible exact HB.out) hb);clear HO295;clear HO298;clear HO301;clear HO306;clear HO308;clear HO311;clear HB;have HO295:=n0_;have HO298:=n1_;have HO301:=n2_;have HO306:=n3_;have HO308:=n4_;have HO311:=n5_;have HB:=n6_;clear n0_ n1_ n2_ n3_ n4_ n5_ n6_;(try clear hb);(try clear hb2);(try clear hk);(try clear hi)))
   go_ret
   exact ⟨by rfl,HB.out⟩
 ·rw [if_neg c5] at H
  have c5b0:(t304 == 0) = false:=beq_eq_false_iff_ne.mpr c5
  have c5b1:(t304 != 0) = true:=bne_iff_ne.mpr c5
  obtain rfl:=Option.some.inj H
  go_enter Try.func25,Try.ntmps25
  go_wp2_with (first | ((with_reducible refine gate_callee (f:=48) rfl ?_);refine goesL_ (some 5) rfl rfl Try.func48 (by kernel_rfl) rfl #[.string (⟨#[97,98]⟩:ByteArray)] rfl (by (try simp only [List.map_toArray,List.map_cons,List.map_nil]);rfl) ?_;(with_reducible refine (chancerykeep1_letters.calls k (⟨#[97,98]⟩:ByteArray) t293 _ A1.out).mono ?_);rintro e w32 ⟨v294,rfl,ho0,hb⟩;refine ⟨_,rfl,?_⟩;have n0_:=Aside0.mk (Kd.N_lower (Kd.N_mono (ok':=fun k_=>True) (Kd.S_N (Kd.S_bound ho0)) (fun k_ hk_=>trivial)) (below_size (by with_reducible exact HB.out)));have n1_:=Aside0.mk (below_step (by with_reducible exact HB.out) hb);clear HB;have HO295:=n0_;have HB:=n1_;clear n0_ n1_;(try clear hb);(try clear hb2);(try clear hk);(try clear hi);(try clear ho0)) | ((with_reducible refine gate_callee (f:=48) rfl ?_);refine goesL_ (some 6) rfl rfl Try.func48 (by kernel_rfl) rfl #[.string (⟨#[97,120,98]⟩:ByteArray)] rfl (by (try simp only [List.map_toArray,List.map_cons,List.map_nil]);rfl) ?_;(with_reducible refine (chancerykeep1_letters.calls k (⟨#[97,120,98]⟩:ByteArray) t296 _ A2.out).mono ?_);rintro e w33 ⟨v297,rfl,ho0,hb⟩;refine ⟨_,rfl,?_⟩;have n0_:=Aside0.mk (Kd.N_elder' HO295.out (Kd.N_base (by exact Kd.S_N ho0)) hb);have n1_:=Aside0.mk (Kd.N_lower (Kd.N_mono (ok':=fun k_=>some k_ ≠ (v294:Value).ownBlock) (Kd.S_N (Kd.S_bound ho0)) (fun k_ hk_=>(Kd.fresh' (Kd.N_lt HO295.out) k_ hk_.2.1))) (below_size (by with_reducible exact HB.out)));have n2_:=Aside0.mk (below_step (by with_reducible exact HB.out) hb);clear HO295;clear HB;have HO295:=n0_;have HO298:=n1_;have HB:=n2_;clear n0_ n1_ n2_;(try clear hb);(try clear hb2);(try clear hk);(try clear hi);(try clear ho0)) | ((with_reducible refine gate_callee (f:=48) rfl ?_);refine goesL_ (some 7) rfl rfl Try.func48 (by kernel_rfl) rfl #[.string (⟨#[97,98]⟩:ByteArray)] rfl (by (try simp only [List.map_toArray,List.map_cons,List.map_nil]);rfl) ?_;(with_reducible refine (chancerykeep1_letters.calls k (⟨#[97,98]⟩:ByteArray) t299 _ A3.out).mono ?_);rintro e w34 ⟨v300,rfl,ho0,hb⟩;refine ⟨_,rfl,?_⟩;have n0_:=Aside0.mk (Kd.N_elder' HO295.out (Kd.N_base (by exact Kd.S_N ho0)) hb);have n1_:=Aside0.mk (Kd.N_elder' HO298.out (Kd.N_base (by exact Kd.S_N ho0)) hb);have n2_:=Aside0.mk (Kd.N_lower (Kd.N_mono (ok':=fun k_=>some k_ ≠ (v294:Value).ownBlock ∧ some k_ ≠ (v297:Value).ownBlock) (Kd.S_N (Kd.S_bound ho0)) (fun k_ hk_=>⟨(Kd.fresh' (Kd.N_lt HO295.out) k_ hk_.2.1),(Kd.fresh' (Kd.N_lt HO298.out) k_ hk_.2.1)⟩)) (below_size (by with_reducible exact HB.out)));have n3_:=Aside0.mk (below_step (by with_reducible exact HB.out) hb);clear HO295;clear HO298;clear HB;have HO295:=n0_;have HO298:=n1_;have HO301:=n2_;have HB:=n3_;clear n0_ n1_ n2_ n3_;(try clear hb);(try clear hb2);(try clear hk);(try clear hi);(try clear ho0);obtain ⟨Ao35,co35,eo35⟩:=Kd.N_slice HO295.out;subst eo35;obtain ⟨Ao36,co36,eo36⟩:=Kd.N_slice HO298.out;subst eo36;obtain ⟨Ao37,co37,eo37⟩:=Kd.N_slice HO301.out;subst eo37) | ((with_reducible refine gate_callee (f:=27) rfl ?_);refine goesL_ (some 8) rfl rfl Try.func27 (by kernel_rfl) rfl #[.slice Ao35 t293.length co35,.slice Ao36 t296.length co36,.slice Ao37 t299.length co37] rfl (by (try simp only [List.map_toArray,List.map_cons,List.map_nil]);rfl) ?_;(with_reducible refine (merge_Flows.calls _ _ t293 _ _ t296 _ _ t299 t302 t303 t304 _ ?side1 ?side2 ?side3 ?side4 ?side5 ?side6 A4.out).mono ?_);(case side1=>repeat (exact (Kd.N_reads' HO295.out).2.2));(case side2=>exact (Kd.N_reads' HO295.out).2.1);(case side3=>repeat (exact (Kd.N_reads' HO298.out).2.2));(case side4=>exact (Kd.N_reads' HO298.out).2.1);(case side5=>repeat (exact (Kd.N_reads' HO301.out).2.2));(case side6=>exact (Kd.N_reads' HO301.out).2.1);rintro e w38 ⟨v305,v307,rfl,ho0,ho1,hb⟩;refine ⟨_,rfl,?_⟩;have n0_:=Aside0.mk (Kd.N_mono (Kd.N_told (Kd.N_told (Kd.N_old HO295.out hb) (Kd.N_base ho0)) (Kd.R_base ho1)) (fun _ h_=>h_.1));have n1_:=Aside0.mk (Kd.N_mono (Kd.N_told (Kd.N_told (Kd.N_old HO298.out hb) (Kd.N_base ho0)) (Kd.R_base ho1)) (fun _ h_=>h_.1));have n2_:=Aside0.mk (Kd.N_mono (Kd.N_told (Kd.N_told (Kd.N_old HO301.out hb) (Kd.N_base ho0)) (Kd.R_base ho1)) (fun _ h_=>h_.1));have n3_:=Aside0.mk (Kd.N_lower (Kd.N_mono (ok':=fun k_=>True) ho0 (fun k_ hk_=>trivial)) (below_size (by with_reducible exact HB.out)));have n4_:=Aside0.mk (Kd.R_lower ho1 (below_size (by with_reducible exact HB.out)));have n5_:=Aside0.mk (below_step (by with_reducible exact HB.out) hb);clear HO295;clear HO298;clear HO301;clear HB;have HO295:=n0_;have HO298:=n1_;have HO301:=n2_;have HO306:=n3_;have HO308:=n4_;have HB:=n5_;clear n0_ n1_ n2_ n3_ n4_ n5_;(try clear hb);(try clear hb2);(try clear hk);(try clear hi);(try clear ho0);(try clear ho1)))
  go_ret
  exact ⟨by rfl,HB.out⟩
end
end Go.Proofs.Ytlcodfjlbhjkbaa.PDelta
end
section
namespace Go.Proofs.Ytlcodfjlbhjkbaa.PDelta
open Go.RowKit Go.Proofs.YtlcodfjlbhjkbaaW.PrintWords Go.Proofs.YtlcodfjlbhjkbaaW.PrintLast Go.Proofs.YtlcodfjlbhjkbaaW.PrintMore
def cut60 (f:List S26):List S26:=if 60 < f.length then f.take 60 else f
structure OneCore (k:Nat) (o a:List S26):Prop where
 one:merge_Flows.f o a o = some (a,[],0)
 two:merge_Flows.f o o a = some (a,[],0)
 both:merge_Flows.f o a a = some (a,[],0)
 same:chanceryref1_SameFlow.f k a a = some true
def OneAt (k:Nat) (o a:List S26):Prop :=
 chancerykeep1_merges.f k = some true ∧ ∃ e,chanceryref1_PartError.f k (cut60 o) = some e ∧ (e ≠ 0 ∨ e = 0 ∧ ∃ f,chanceryref1_PartError.f k (cut60 a) = some f ∧ (f ≠ 0 ∨ f = 0 ∧ OneCore k (cut60 o) (cut60 a)))
set_option maxRecDepth 100000 in
set_option maxHeartbeats 16000000 in
theorem oneLaw_calls (k:Nat) (A0:Option Addr) (c0:Nat) (a:List S26) (A1:Option Addr) (c1:Nat) (b:List S26) (second:Bool) (w:World) (hr0:Kd.C k26 w A0 a.length a) (hc0:a.length ≤ c0) (hr1:Kd.C k26 w A1 b.length b) (hc1:b.length ≤ c1) (h:OneAt k a b) :
 Calls Try.prog 5 #[.slice A0 a.length c0,.slice A1 b.length c1,.bool second] w fun e w'=>e = .returned (.bool true) ∧ Below w.heap.size w w':=by
 have HR0:=Aside0.mk hr0
 have HC0:=Aside0.mk hc0
 have HR1:=Aside0.mk hr1
 have HC1:=Aside0.mk hc1
 clear hr0 hc0 hr1 hc1
 obtain ⟨hm,e,he,h⟩:=h
 have HM:=Aside0.mk hm
 have HE:=Aside0.mk he
 have H:=Aside0.mk h
 clear hm he h
 obtain ⟨ta,hta⟩:∃ t:Bool,decide ((60:Int) < (a.length:Int)) = t:=⟨_,rfl⟩
 have hta2:decide (60 < a.length) = ta:=by rw [← hta];exact decide_eq_decide.mpr (by omega)
 go_enter Try.func5,Try.ntmps5
 go_upto_if 17 with (go_at_call 25;(with_reducible refine (chancerykeep1_merges.calls k true w HM.out).mono ?_);rintro e1 w1 ⟨rfl,hb⟩;have HB1:=Aside0.mk hb;clear hb)
 go_cut [0] (fun v0 wx=>Aside0 (v0 = .slice A0 (cut60 a).length c0) ∧ Aside0 (Below w.heap.size w wx))
 case first =>
  cases ta with
  | true =>
   have hl:=of_decide_eq_true hta2
   have HE61:=Aside0.mk (show (cut60 a).length = 60 by unfold cut60;rw [if_pos hl,List.length_take];omega)
   have s1:(60:Int) ≤ (c0:Int):=by have:=HC0.out;omega
   have s1':(60:Nat) ≤ c0:=by omega
   have s2:decide ((60:Int) ≤ (c0:Int)) = true:=decide_eq_true s1
   have s2':decide (60 ≤ c0) = true:=decide_eq_true s1'
   clear hl hta hta2
   go_wp2
   go_meet
   case rel=>exact ⟨⟨by rw [HE61.out]⟩,HB1⟩
  | false =>
   have hl:=of_decide_eq_false hta2
   have HE61:=Aside0.mk (show cut60 a = a from if_neg hl)
   clear hl hta hta2
   go_wp2
   go_meet
   case rel=>exact ⟨⟨by rw [HE61.out]⟩,HB1⟩
 case rest =>
 clear hta hta2
 obtain ⟨hv0,HB2⟩:=hcut
 have hv0':=hv0.out
 subst hv0'
 clear hv0 HB1
 have HF:Aside0 (Kd.C k26 w A0 (cut60 a).length (cut60 a) ∧ (cut60 a).length ≤ c0):=⟨by
  have:=HC0.out
  unfold cut60
  split
  ·exact ⟨Kd.C_take HR0.out (by omega),by rw [List.length_take];omega⟩
  ·exact ⟨HR0.out,this⟩⟩
 obtain ⟨a',ha'⟩:∃ f',f' = cut60 a:=⟨_,rfl⟩
 rw [← ha'] at HF HE H
 rw [← ha']
 clear ha' HR0 HC0
 obtain ⟨w2,hw2⟩:∃ w2,w2 = wc:=⟨_,rfl⟩
 rw [← hw2] at HB2 ⊢
 clear hw2
 obtain ⟨tb,htb⟩:∃ t:Bool,decide ((60:Int) < (b.length:Int)) = t:=⟨_,rfl⟩
 have htb2:decide (60 < b.length) = tb:=by rw [← htb];exact decide_eq_decide.mpr (by omega)
 go_upto_if 22 with (fail)
 go_cut [1] (fun v1 wx=>Aside0 (v1 = .slice A1 (cut60 b).length c1) ∧ Aside0 (Below w.heap.size w wx))
 case first =>
  cases tb with
  | true =>
   have hl:=of_decide_eq_true htb2
   have HE61:=Aside0.mk (show (cut60 b).length = 60 by unfold cut60;rw [if_pos hl,List.length_take];omega)
   have s1:(60:Int) ≤ (c1:Int):=by have:=HC1.out;omega
   have s1':(60:Nat) ≤ c1:=by omega
   have s2:decide ((60:Int) ≤ (c1:Int)) = true:=decide_eq_true s1
   have s2':decide (60 ≤ c1) = true:=decide_eq_true s1'
   clear hl htb htb2
   go_wp2
   go_meet
   case rel=>exact ⟨⟨by rw [HE61.out]⟩,HB2⟩
  | false =>
   have hl:=of_decide_eq_false htb2
   have HE61:=Aside0.mk (show cut60 b = b from if_neg hl)
   clear hl htb htb2
   go_wp2
   go_meet
   case rel=>exact ⟨⟨by rw [HE61.out]⟩,HB2⟩
 case rest =>
 clear htb htb2 HB2
 obtain ⟨hv1,HB3⟩:=hcut
 have hv1':=hv1.out
 subst hv1'
 clear hv1
 have HG:Aside0 (Kd.C k26 w A1 (cut60 b).length (cut60 b) ∧ (cut60 b).length ≤ c1):=⟨by
  have:=HC1.out
  unfold cut60
  split
  ·exact ⟨Kd.C_take HR1.out (by omega),by rw [List.length_take];omega⟩
  ·exact ⟨HR1.out,this⟩⟩
 obtain ⟨b',hb'⟩:∃ f',f' = cut60 b:=⟨_,rfl⟩
 rw [← hb'] at HG H
 rw [← hb']
 clear hb' HR1 HC1
 rcases H.out with h0 | ⟨h0,f,hf,hh⟩
 ·have h0b:(e != 0) = true:=bne_iff_ne.mpr h0
  clear h0 H
  go_wp2_with (go_at_call 26;(with_reducible refine (chanceryref1_PartError.calls k _ _ a' e _ (Kd.C_below HF.out.1 HB3.out) HF.out.2 HE.out).mono ?_);rintro e1 w3 ⟨rfl,hb⟩;have HB4:=Aside0.mk (below_step HB3.out hb);clear hb)
  go_ret
  exact ⟨rfl,HB4.out⟩
 have h0b:(e != 0) = false:=by simpa using h0
 have HFE:=Aside0.mk hf
 clear h0 H hf
 rcases hh with h1 | ⟨h1,hd⟩
 ·have h1b:(f != 0) = true:=bne_iff_ne.mpr h1
  clear h1
  go_wp2_with (first | (go_at_call 26;(with_reducible refine (chanceryref1_PartError.calls k _ _ a' e _ (Kd.C_below HF.out.1 HB3.out) HF.out.2 HE.out).mono ?_);rintro e1 w3 ⟨rfl,hb⟩;have HB4:=Aside0.mk (below_step HB3.out hb);clear hb) | (go_at_call 26;(with_reducible refine (chanceryref1_PartError.calls k _ _ b' f _ (Kd.C_below HG.out.1 HB4.out) HG.out.2 HFE.out).mono ?_);rintro e1 w4 ⟨rfl,hb⟩;have HB5:=Aside0.mk (below_step HB4.out hb);clear hb))
  go_ret
  exact ⟨rfl,HB5.out⟩
 have h1b:(f != 0) = false:=by simpa using h1
 have HD:=Aside0.mk hd
 clear h1 hd
 go_upto_if 41 with (first | (go_at_call 26;(with_reducible refine (chanceryref1_PartError.calls k _ _ a' e _ (Kd.C_below HF.out.1 HB3.out) HF.out.2 HE.out).mono ?_);rintro e1 w3 ⟨rfl,hb⟩;have HB4:=Aside0.mk (below_step HB3.out hb);clear hb) | (go_at_call 26;(with_reducible refine (chanceryref1_PartError.calls k _ _ b' f _ (Kd.C_below HG.out.1 HB4.out) HG.out.2 HFE.out).mono ?_);rintro e1 w4 ⟨rfl,hb⟩;have HB5:=Aside0.mk (below_step HB4.out hb);clear hb) | (go_at_call 27;(with_reducible refine (merge_Flows.calls A0 c0 a' A1 c1 b' A0 c0 a' b' [] 0 w4 (Kd.C_below HF.out.1 HB5.out) HF.out.2 (Kd.C_below HG.out.1 HB5.out) HG.out.2 (Kd.C_below HF.out.1 HB5.out) HF.out.2 HD.out.one).mono ?_);rintro e1 w5 ⟨v5,u5,rfl,hN,hR,hb⟩;obtain ⟨D1,m1,rfl⟩:=Kd.N_slice hN;obtain ⟨U1,n1,rfl⟩:=Kd.R_slice hR;have HN5:=Aside0.mk (And.intro (Kd.N_reads' hN).2.2 (Kd.N_reads' hN).2.1);have HB6:=Aside0.mk (below_step HB5.out hb);clear hN hR hb))
 go_cut [7,8,9] (fun v7 v8 v9 wx=>∃ (D:Option Addr) (m:Nat) (U:Option Addr) (n:Nat),v7 = .slice D b'.length m ∧ v8 = .slice U 0 n ∧ v9 = .int .i64 0 ∧ Aside0 (Kd.C k26 wx D b'.length b' ∧ b'.length ≤ m) ∧ Aside0 (Below w.heap.size w wx))
 case first =>
  cases second with
  | true =>
   go_wp2_with (go_at_call 27;(with_reducible refine (merge_Flows.calls A0 c0 a' A0 c0 a' A1 c1 b' b' [] 0 w5 (Kd.C_below HF.out.1 HB6.out) HF.out.2 (Kd.C_below HF.out.1 HB6.out) HF.out.2 (Kd.C_below HG.out.1 HB6.out) HG.out.2 HD.out.two).mono ?_);rintro e1 w6 ⟨v6,u6,rfl,hN,hR,hb⟩;obtain ⟨D2,m2,rfl⟩:=Kd.N_slice hN;obtain ⟨U2,n2,rfl⟩:=Kd.R_slice hR;have HN6:=Aside0.mk (And.intro (Kd.N_reads' hN).2.2 (Kd.N_reads' hN).2.1);have HB7:=Aside0.mk (below_step HB6.out hb);clear hN hR hb)
   go_meet
   case rel=>exact ⟨D2,m2,U2,n2,rfl,rfl,rfl,HN6,HB7⟩
  | false =>
   go_wp2
   go_meet
   case rel=>exact ⟨D1,m1,U1,n1,rfl,rfl,rfl,HN5,HB6⟩
 case rest =>
 clear HN5 HB6 HB5 HB4 HB3
 obtain ⟨D,m,U,n,rfl,rfl,rfl,HN6,HB6⟩:=hcut
 obtain ⟨w6,hw6⟩:∃ W,W = wc:=⟨_,rfl⟩
 rw [← hw6] at HN6 HB6
 rw [← hw6]
 clear hw6
 go_wp2_with (first | (go_at_call 27;(with_reducible refine (merge_Flows.calls A0 c0 a' A1 c1 b' A1 c1 b' b' [] 0 w6 (Kd.C_below HF.out.1 HB6.out) HF.out.2 (Kd.C_below HG.out.1 HB6.out) HG.out.2 (Kd.C_below HG.out.1 HB6.out) HG.out.2 HD.out.both).mono ?_);rintro e1 w7 ⟨v7,u7,rfl,hN,hR,hb⟩;obtain ⟨D3,m3,rfl⟩:=Kd.N_slice hN;obtain ⟨U3,n3,rfl⟩:=Kd.R_slice hR;have HN7:=Aside0.mk (And.intro (Kd.N_reads' hN).2.2 (Kd.N_reads' hN).2.1);have HB67:=Aside0.mk hb;have HB7:=Aside0.mk (below_step HB6.out hb);clear hN hR hb) | (go_at_call 28;(with_reducible refine (chanceryref1_SameFlow.calls k D m b' A1 c1 b' true w7 (Kd.C_below HN6.out.1 HB67.out) HN6.out.2 (Kd.C_below HG.out.1 HB7.out) HG.out.2 HD.out.same).mono ?_);rintro e1 w8 ⟨rfl,hb⟩;have HB78:=Aside0.mk hb;have HB8:=Aside0.mk (below_step HB7.out hb);clear hb) | (go_at_call 28;(with_reducible refine (chanceryref1_SameFlow.calls k D3 m3 b' A1 c1 b' true w8 (Kd.C_below HN7.out.1 HB78.out) HN7.out.2 (Kd.C_below HG.out.1 HB8.out) HG.out.2 HD.out.same).mono ?_);rintro e1 w9 ⟨rfl,hb⟩;have HB9:=Aside0.mk (below_step HB8.out hb);clear hb))
 go_ret
 exact ⟨rfl,HB9.out⟩
theorem getD_set {α:Type} (l:List α) (i j:Nat) (x z:α):(l.set i x).getD j z = if i = j ∧ i < l.length then x else l.getD j z:=by
 rw [List.getD_eq_getElem?_getD,List.getD_eq_getElem?_getD,List.getElem?_set]
 by_cases h:i = j
 ·subst h
  by_cases hl:i < l.length
  ·simp [hl]
  ·simp [hl]
 ·simp [h]
theorem getD_fill {α:Type} (l:List α) (i:Nat) (x z:α):∀ (n j:Nat),i + n ≤ l.length → (fillS l i x n).getD j z = if i ≤ j ∧ j < i + n then x else l.getD j z
 | 0,j,_=>by rw [fillS,if_neg (by omega)]
 | n + 1,j,h=>by
  rw [fillS,getD_set,fillS_len,getD_fill l i x z n j (by omega)]
  by_cases e:i + n = j
  ·rw [if_pos ⟨e,by omega⟩,if_pos (by omega)]
  ·rw [if_neg (fun q=>e q.1)]
   by_cases f:i ≤ j ∧ j < i + n
   ·rw [if_pos f,if_pos (by omega)]
   ·rw [if_neg f,if_neg (by omega)]
def wv (o:List S26) (t:Side):Nat → List S26
 | 0=>[]
 | i + 1=>wv o t i ++ (rd_L5 t.1 (i:Int) ++ (if t.2.1.getD i false = true then [] else [app (rd_L3 t.2.2 (i:Int)) (rd_T26 o (i:Int))]))
theorem rd5 (l:List (List S26)) (i:Nat):rd_L5 l (i:Int) = l.getD i []:=by rw [rd_L5,Int.toNat_natCast]
theorem rd3 (l:List (List S91)) (i:Nat):rd_L3 l (i:Int) = l.getD i []:=by rw [rd_L3,Int.toNat_natCast]
theorem wv_same {o:List S26} {t t':Side}:∀ i:Nat,(∀ j:Nat,j < i → rd_L5 t.1 (j:Int) = rd_L5 t'.1 (j:Int) ∧ t.2.1.getD j false = t'.2.1.getD j false ∧ rd_L3 t.2.2 (j:Int) = rd_L3 t'.2.2 (j:Int)) → wv o t i = wv o t' i
 | 0,_=>rfl
 | i + 1,h=>by
  obtain ⟨h1,h2,h3⟩:=h i (by omega)
  rw [wv,wv,wv_same i (fun j hj=>h j (by omega)),h1,h2,h3]
structure Fresh (n:Nat) (t:Side) (i:Nat):Prop where
 la:t.1.length = n + 1
 lc:t.2.1.length = n
 lt:t.2.2.length = n
 a:∀ j:Nat,i < j → rd_L5 t.1 (j:Int) = []
 c:∀ j:Nat,i ≤ j → t.2.1.getD j false = false
 t:∀ j:Nat,i ≤ j → rd_L3 t.2.2 (j:Int) = []
theorem drop_at {o:List S26} {i:Nat} (h:i < o.length):o.drop i = rd_T26 o (i:Int) :: o.drop (i + 1):=drop_T26 o i h
theorem wv_cut {o:List S26} {n:Nat} {t:Side} {i N:Nat} (h:Fresh n t i) (hN:i + N ≤ n):∀ m,m ≤ N → 0 < m → wv o (t.1,fillS t.2.1 i true N,t.2.2) (i + m) = wv o t i ++ rd_L5 t.1 (i:Int)
 | 0,_,h0=>absurd h0 (Nat.lt_irrefl 0)
 | m + 1,hm,_=>by
  have hc:(fillS t.2.1 i true N).getD (i + m) false = true:=by rw [getD_fill _ _ _ _ _ _ (by rw [h.lc];exact hN),if_pos (by omega)]
  show wv o _ (i + m) ++ (rd_L5 t.1 ((i + m:Nat):Int) ++ (if (fillS t.2.1 i true N).getD (i + m) false = true then [] else _)) = _
  rw [if_pos hc,List.append_nil]
  by_cases h0:m = 0
  ·subst h0
   rw [Nat.add_zero]
   congr 1
   refine wv_same i (fun j hj=>⟨rfl,?_,rfl⟩)
   show (fillS t.2.1 i true N).getD j false = _
   rw [getD_fill _ _ _ _ _ _ (by rw [h.lc];exact hN),if_neg (by omega)]
  ·rw [wv_cut h hN m (by omega) (by omega),h.a (i + m) (by omega),List.append_nil]
theorem wv_keep {o:List S26} {n:Nat} {t:Side} {i N:Nat} {c:List S91} (h:Fresh n t i) (hN:i + N ≤ n) (ho:n = o.length):∀ m,m ≤ N → 0 < m → wv o (t.1,t.2.1,fillS t.2.2 i c N) (i + m) = wv o t i ++ rd_L5 t.1 (i:Int) ++ ((o.drop i).take m).map (app c)
 | 0,_,h0=>absurd h0 (Nat.lt_irrefl 0)
 | m + 1,hm,_=>by
  have hf:t.2.1.getD (i + m) false = false:=h.c (i + m) (by omega)
  have ht:rd_L3 (fillS t.2.2 i c N) ((i + m:Nat):Int) = c:=by rw [rd3,getD_fill _ _ _ _ _ _ (by rw [h.lt];exact hN),if_pos (by omega)]
  show wv o _ (i + m) ++ (rd_L5 t.1 ((i + m:Nat):Int) ++ (if t.2.1.getD (i + m) false = true then [] else [app (rd_L3 (fillS t.2.2 i c N) ((i + m:Nat):Int)) (rd_T26 o ((i + m:Nat):Int))])) = _
  rw [hf,if_neg (by decide),ht]
  have hd:((o.drop i).take (m + 1)) = ((o.drop i).take m) ++ [rd_T26 o ((i + m:Nat):Int)]:=by
   rw [List.take_add_one]
   congr 1
   rw [List.getElem?_drop]
   have:=drop_at (o:=o) (i:=i + m) (by omega)
   have h2:o[i + m]? = some (rd_T26 o ((i + m:Nat):Int)):=by
    have h3:(o.drop (i + m))[0]? = some (rd_T26 o ((i + m:Nat):Int)):=by rw [this];rfl
    rwa [List.getElem?_drop,Nat.add_zero] at h3
   rw [h2];rfl
  rw [hd,List.map_append,List.map_singleton]
  by_cases h0:m = 0
  ·subst h0
   rw [Nat.add_zero,List.take_zero,List.map_nil,List.nil_append]
   have hw:wv o (t.1,t.2.1,fillS t.2.2 i c N) i = wv o t i:=wv_same i (fun j hj=>⟨rfl,rfl,by
    show rd_L3 (fillS t.2.2 i c N) (j:Int) = _
    rw [rd3,rd3,getD_fill _ _ _ _ _ _ (by rw [h.lt];exact hN),if_neg (by omega)]⟩)
   rw [hw,List.append_assoc]
  ·rw [wv_keep h hN ho m (by omega) (by omega),h.a (i + m) (by omega),List.nil_append]
   simp only [List.append_assoc]
theorem Fresh.step {n:Nat} {t:Side} {i:Nat} {s:S95} (h:Fresh n t i) (hi:rdI s i ≤ n) (hle:i ≤ n):Fresh n (rdS s t i) (rdI s i):=by
 unfold rdS rdI at *
 by_cases c1:s.f0 = 1
 ·rw [if_pos c1,if_pos c1]
  exact ⟨by rw [List.length_set];exact h.la,h.lc,h.lt,fun j hj=>by
   show rd_L5 (t.1.set i s.f3) (j:Int) = []
   rw [rd5,getD_set,if_neg (by omega),← rd5];exact h.a j hj,h.c,h.t⟩
 ·rw [if_neg c1] at hi
  rw [if_neg c1,if_neg c1]
  by_cases c2:s.f0 = 2
  ·rw [if_pos c2]
   exact ⟨h.la,by show (fillS _ _ _ _).length = n;rw [fillS_len];exact h.lc,h.lt,fun j hj=>h.a j (by omega),fun j hj=>by
    show (fillS t.2.1 i true s.f1.toNat).getD j false = false
    rw [getD_fill _ _ _ _ _ _ (by rw [h.lc];exact hi),if_neg (by omega)];exact h.c j (by omega),fun j hj=>h.t j (by omega)⟩
  ·rw [if_neg c2]
   exact ⟨h.la,h.lc,by show (fillS _ _ _ _).length = n;rw [fillS_len];exact h.lt,fun j hj=>h.a j (by omega),fun j hj=>h.c j (by omega),fun j hj=>by
    show rd_L3 (fillS t.2.2 i s.f2 s.f1.toNat) (j:Int) = []
    rw [rd3,getD_fill _ _ _ _ _ _ (by rw [h.lt];exact hi),if_neg (by omega),← rd3];exact h.t j (by omega)⟩
theorem nold_us {s:S95} (h:StepOK s):nold (us s) = if s.f0 = 1 then 0 else s.f1.toNat:=by
 have h2:=old_units (d:=[s]) (fun x hx=>by rw [List.mem_singleton.1 hx];exact h)
 rw [units_cons,units_nil,List.append_nil,old,old] at h2
 unfold oldS at h2
 rcases h with h | h | h
 ·rw [if_neg (by omega)] at h2 ⊢;omega
 ·rw [if_pos h.1] at h2 ⊢;omega
 ·rw [if_neg (by omega)] at h2 ⊢;omega
theorem side_run (o:List S26) (n:Nat) (ho:n = o.length):∀ (d:List S95) (t:Side) (i:Nat) (pr:Option S95),(∀ s ∈ d,StepOK s) → ordOK pr d → (rd_L5 t.1 (i:Int) = [] ∨ ∃ q,pr = some q ∧ q.f0 = 1) → Fresh n t i → i + nold (units d) = n →
 wv o (rdL d t i) n ++ rd_L5 (rdL d t i).1 (n:Int) = wv o t i ++ rd_L5 t.1 (i:Int) ++ (run (o.drop i) (units d)).1 ∧ Fresh n (rdL d t i) n
 | [],t,i,pr,_,_,_,hf,hn=>by
  rw [units_nil] at hn ⊢
  have:i = n:=by simpa [nold] using hn
  subst this
  rw [rdL,run,List.append_nil]
  exact ⟨rfl,hf⟩
 | s :: d,t,i,pr,hok,hord,hp,hf,hn=>by
  have hs:=hok s List.mem_cons_self
  have hd:∀ x ∈ d,StepOK x:=fun x hx=>hok x (List.mem_cons_of_mem _ hx)
  obtain ⟨ha,hord2⟩:=hord
  have hnu:=nold_us hs
  rw [units_cons,nold_app,hnu] at hn
  have hI:rdI s i = i + (if s.f0 = 1 then 0 else s.f1.toNat):=by unfold rdI;split <;> omega
  have hle:rdI s i ≤ n:=by rw [hI];omega
  have hf2:=hf.step (s:=s) hle (by omega)
  rw [rdL]
  rcases hs with hk | hk | hk
  ·have e1:rdS s t i = (t.1,t.2.1,fillS t.2.2 i s.f2 s.f1.toNat):=(if_neg (by omega)).trans (if_neg (by omega))
   have e2:rdI s i = i + s.f1.toNat:=if_neg (by omega)
   rw [if_neg (by omega)] at hn
   rw [e1,e2] at hf2 ⊢
   have hz:rd_L5 t.1 ((i + s.f1.toNat:Nat):Int) = []:=hf.a _ (by omega)
   obtain ⟨h1,h2⟩:=side_run o n ho d (t.1,t.2.1,fillS t.2.2 i s.f2 s.f1.toNat) (i + s.f1.toNat) (some s) hd hord2 (.inl hz) hf2 (by omega)
   refine ⟨?_,h2⟩
   rw [h1,wv_keep hf (by omega) ho s.f1.toNat (Nat.le_refl _) (by omega),hz,List.append_nil,units_cons,run_app,us_keep hk.1,run_keeps _ _ _ (by rw [List.length_drop];omega),List.drop_drop]
   simp only [List.append_assoc]
  ·have e1:rdS s t i = (t.1.set i s.f3,t.2):=if_pos hk.1
   have e2:rdI s i = i:=if_pos hk.1
   rw [if_pos hk.1] at hn
   have hz:rd_L5 t.1 (i:Int) = []:=by
    rcases hp with hp | ⟨q,rfl,hq⟩
    ·exact hp
    ·exact absurd (ha q rfl) (fun h=>h.1 ⟨by omega,.inl (by omega)⟩)
   rw [e1,e2] at hf2 ⊢
   obtain ⟨h1,h2⟩:=side_run o n ho d (t.1.set i s.f3,t.2) i (some s) hd hord2 (.inr ⟨s,rfl,hk.1⟩) hf2 (by omega)
   refine ⟨?_,h2⟩
   have hr:rd_L5 (t.1.set i s.f3) (i:Int) = s.f3:=by rw [rd5,getD_set,if_pos ⟨rfl,by rw [hf.la];omega⟩]
   have hw:wv o (t.1.set i s.f3,t.2) i = wv o t i:=wv_same i (fun j hj=>⟨by show rd_L5 (t.1.set i s.f3) (j:Int) = _;rw [rd5,rd5,getD_set,if_neg (by omega)],rfl,rfl⟩)
   rw [h1,hw,hz,List.append_nil,units_cons,run_app,us_add hk.1,run_adds]
   show wv o t i ++ rd_L5 (t.1.set i s.f3) (i:Int) ++ _ = _
   rw [hr,List.append_assoc]
  ·have e1:rdS s t i = (t.1,fillS t.2.1 i true s.f1.toNat,t.2.2):=(if_neg (by omega)).trans (if_pos hk.1)
   have e2:rdI s i = i + s.f1.toNat:=if_neg (by omega)
   rw [if_neg (by omega)] at hn
   rw [e1,e2] at hf2 ⊢
   have hz:rd_L5 t.1 ((i + s.f1.toNat:Nat):Int) = []:=hf.a _ (by omega)
   obtain ⟨h1,h2⟩:=side_run o n ho d (t.1,fillS t.2.1 i true s.f1.toNat,t.2.2) (i + s.f1.toNat) (some s) hd hord2 (.inl hz) hf2 (by omega)
   refine ⟨?_,h2⟩
   rw [h1,wv_cut hf (by omega) s.f1.toNat (Nat.le_refl _) (by omega),hz,List.append_nil,units_cons,run_app,us_cut hk.1,run_cuts _ _ (by rw [List.length_drop];omega),List.drop_drop,List.nil_append]
theorem fresh0 (n:Nat):Fresh n ((List.replicate (n + 1) [],List.replicate n false,List.replicate n []):Side) 0:=by
 have h:∀ {α:Type} (m j:Nat) (z:α),(List.replicate m z).getD j z = z:=fun m j z=>by
  rw [List.getD_eq_getElem?_getD,List.getElem?_replicate]
  split <;> rfl
 exact ⟨by simp,by simp,by simp,fun j _=>by rw [rd5];exact h _ _ _,fun j _=>h _ _ _,fun j _=>by rw [rd3];exact h _ _ _⟩
theorem sideOf_run {o:List S26} {d:List S95} (hok:∀ s ∈ d,StepOK s) (hord:ordOK none d) (hn:nold (units d) = o.length) :
 wv o (sideOf o.length d) o.length ++ rd_L5 (sideOf o.length d).1 (o.length:Int) = (run o (units d)).1 ∧ Fresh o.length (sideOf o.length d) o.length:=by
 have h0:rd_L5 (List.replicate (o.length + 1) ([]:List S26)) ((0:Nat):Int) = []:=by rw [rd5];rfl
 obtain ⟨h1,h2⟩:=side_run o o.length rfl d (List.replicate (o.length + 1) [],List.replicate o.length false,List.replicate o.length []) 0 none hok hord (.inl h0) (fresh0 _) (by omega)
 refine ⟨?_,h2⟩
 show wv o (rdL d _ 0) _ ++ rd_L5 (rdL d _ 0).1 _ = _
 rw [h1,h0,List.drop_zero]
 rfl
theorem tc_self:∀ a:List S26,tc a a = 0
 | []=>by rw [tc_nil];rfl
 | x :: a=>by rw [tc_cons,if_pos ⟨rfl,rfl⟩,tc_self a,show prc x x = 0 from if_pos rfl];omega
theorem tcT_self (o:List S26):tcT o o = 0:=by
 unfold tcT
 split
 ·rw [tc_self,show prc (lastE o) (lastE o) = 0 from if_pos rfl]
 ·exact tc_self o
theorem cost_zero:∀ {u:List Un},costU u = 0 → ∀ y ∈ u,y = .keep []
 | [],_,y,hy=>by cases hy
 | .add x :: u,h,y,hy=>by simp [costU] at h
 | .cut :: u,h,y,hy=>by simp [costU] at h
 | .keep [] :: u,h,y,hy=>by
  rcases List.mem_cons.1 hy with rfl | hy
  ·rfl
  ·exact cost_zero (u:=u) (by simpa [costU] using h) y hy
 | .keep (z :: l) :: u,h,y,hy=>by simp [costU] at h
def triv (n:Nat):Side:=(List.replicate (n + 1) [],List.replicate n false,List.replicate n [])
theorem rep_getD {α:Type} (m j:Nat) (z:α):(List.replicate m z).getD j z = z:=by
 rw [List.getD_eq_getElem?_getD,List.getElem?_replicate]
 split <;> rfl
theorem triv_a (n i:Nat):rd_L5 (triv n).1 (i:Int) = []:=by rw [rd5];exact rep_getD _ _ _
theorem triv_c (n i:Nat):(triv n).2.1.getD i false = false:=rep_getD _ _ _
theorem triv_t (n i:Nat):rd_L3 (triv n).2.2 (i:Int) = []:=by rw [rd3];exact rep_getD _ _ _
theorem fill_rep {α:Type} (m i:Nat) (z:α):∀ n,fillS (List.replicate m z) i z n = List.replicate m z
 | 0=>rfl
 | n + 1=>by
  rw [fillS,fill_rep m i z n]
  apply List.ext_getElem?
  intro j
  rw [List.getElem?_set,List.getElem?_replicate]
  split
  ·rename_i h;subst h
   simp only [List.length_replicate]
  ·rfl
theorem side_triv (n:Nat):∀ (d:List S95) (i:Nat),(∀ s ∈ d,s.f0 = 0 ∧ s.f2 = []) → rdL d (triv n) i = triv n
 | [],_,_=>rfl
 | s :: d,i,h=>by
  obtain ⟨h1,h2⟩:=h s List.mem_cons_self
  have e:rdS s (triv n) i = triv n:=by
   unfold rdS
   rw [if_neg (by omega),if_neg (by omega),h2]
   show ((triv n).1,(triv n).2.1,fillS (List.replicate n []) i [] s.f1.toNat) = _
   rw [fill_rep]
   rfl
  rw [rdL,e]
  exact side_triv n d _ (fun x hx=>h x (List.mem_cons_of_mem _ hx))
theorem keeps_of {d:List S95} (hok:∀ s ∈ d,StepOK s) (hc:costU (units d) = 0):∀ s ∈ d,s.f0 = 0 ∧ s.f2 = []:=by
 intro s hs
 have hz:=cost_zero hc
 have hu:∀ y ∈ us s,y = .keep []:=fun y hy=>hz y (List.mem_flatMap.2 ⟨s,hs,hy⟩)
 rcases hok s hs with h | h | h
 ·rw [us_keep h.1] at hu
  have h3:=hu (.keep s.f2) (List.mem_replicate.2 ⟨by omega,rfl⟩)
  injection h3 with h3
  exact ⟨h.1,h3⟩
 ·rw [us_add h.1] at hu
  obtain ⟨x,l,hxl⟩:=List.exists_cons_of_ne_nil h.2.2.2.1
  have h3:=hu (.add x) (List.mem_map.2 ⟨x,by rw [hxl];exact List.mem_cons_self,rfl⟩)
  cases h3
 ·rw [us_cut h.1] at hu
  have h3:=hu .cut (List.mem_replicate.2 ⟨by omega,rfl⟩)
  cases h3
theorem sm_self (a:List S26):smB a a = true:=by unfold smB;exact (@decide_eq_true_iff _ (Classical.propDecidable _)).2 rfl
theorem idx_nil (c:S91):idxP [] c = -1:=rfl
theorem clash_nil (c:S91):clashB [] c = false:=by rw [clashB,idx_nil];rfl
theorem att_nil (nd at_:Int):∀ (l:List S91) (bd:List S56),attB nd at_ [] l bd = bd
 | [],_=>rfl
 | c :: l,bd=>by rw [attB,clash_nil,if_neg (by decide)];exact att_nil nd at_ l bd
theorem jn_left (nd:Int) (o:List S26) (p:Side) (n:Nat) (hx:∀ i:Nat,i < n → VA false (rd_T26 o (i:Int)).f2):∀ i,i ≤ n → jnP nd o p (triv n) i = (wv o p i,[])
 | 0,_=>rfl
 | i + 1,hi=>by
  have e1:∀ t,stO o p (triv n) i t = t ++ rd_L5 p.1 (i:Int):=fun t=>by rw [stO,triv_a,gapO,if_pos (.inl rfl)]
  have e2:∀ t bd,stB nd p (triv n) i t bd = bd:=fun t bd=>by rw [stB,triv_a,gapB,if_pos (.inl rfl)]
  rw [jnP,jn_left nd o p n hx i (by omega),jnS,e1,e2,triv_t,triv_c,wv]
  cases hc:p.2.1.getD i false with
  | true =>
   rw [elemO,elemB,if_pos (by rfl),if_pos (by rfl),if_pos rfl,List.append_nil,if_neg (by simp [cutC])]
  | false =>
   rw [elemO,elemB,if_neg (by decide),if_neg (by decide),if_neg (by decide),att_nil,app_nil_f2 (hx i (by omega)),List.append_assoc]
   rfl
theorem jn_right (nd:Int) (o:List S26) (p:Side) (n:Nat) (hx:∀ i:Nat,i < n → VA false (mrg rawE (rd_T26 o (i:Int)).f2 (rd_L3 p.2.2 (i:Int)))):∀ i,i ≤ n → jnP nd o (triv n) p i = (wv o p i,[])
 | 0,_=>rfl
 | i + 1,hi=>by
  have e1:∀ t,stO o (triv n) p i t = t ++ rd_L5 p.1 (i:Int):=fun t=>by
   rw [stO,triv_a,gapO]
   split
   ·rename_i h
    rcases h with h | h
    ·rw [List.eq_nil_of_length_eq_zero h]
    ·unfold smB at h
     rw [← (@decide_eq_true_iff _ (Classical.propDecidable _)).1 h]
   ·rw [List.append_nil]
  have e2:∀ t bd,stB nd (triv n) p i t bd = bd:=fun t bd=>by rw [stB,triv_a,gapB,if_pos (.inr (.inr rfl))]
  rw [jnP,jn_right nd o p n hx i (by omega),jnS,e1,e2,triv_t,triv_c,wv]
  cases hc:p.2.1.getD i false with
  | true =>
   rw [elemO,elemB,if_pos (by rfl),if_pos (by rfl),if_pos rfl,List.append_nil,if_neg (by simp [cutC])]
  | false =>
   rw [elemO,elemB,if_neg (by decide),if_neg (by decide),if_neg (by decide),attB,app_nil_f2 (hx i (by omega)),List.append_assoc]
   rfl
theorem idx_at {b:List S91} (hs:Srt b) {c:S91} (hc:c ∈ b):∃ j:Nat,idxP b c = (j:Int) ∧ rd_T91 b (j:Int) = c:=by
 have key:∀ m i,i + m = b.length → (∃ j,i ≤ j ∧ j < b.length ∧ rd_T91 b ((j:Nat):Int) = c) → ∃ j:Nat,idxL b c i m = (j:Int) ∧ rd_T91 b (j:Int) = c:=by
  intro m
  induction m with
  | zero=>intro i hi ⟨j,h1,h2,_⟩;omega
  | succ m ih =>
   intro i hi ⟨j,h1,h2,h3⟩
   rw [idxL]
   split
   ·rename_i he
    refine ⟨i,rfl,?_⟩
    have hm:rd_T91 b (i:Int) ∈ b:=by
     have:=drop_T91 b i (by omega)
     exact List.mem_of_mem_drop (i:=i) (by rw [this];exact List.mem_cons_self)
    have e1:=look_mem hs hm
    have e2:=look_mem hs hc
    have hn:(rd_T91 b (i:Int)).f0.toList = c.f0.toList:=by simpa using he
    rw [hn] at e1
    rw [e1] at e2
    exact s91_ext hn (Option.some.inj e2)
   ·rename_i he
    refine ih (i + 1) (by omega) ⟨j,?_,h2,h3⟩
    rcases Nat.lt_or_ge i j with h | h
    ·omega
    ·have:i = j:=by omega
     subst this
     rw [h3] at he
     simp at he
 obtain ⟨j,hj,hjc⟩:=List.mem_iff_getElem.1 hc
 exact key b.length 0 (by omega) ⟨j,Nat.zero_le _,hj,by rw [rd_T91,Int.toNat_natCast,List.getD_eq_getElem?_getD,List.getElem?_eq_getElem hj];exact hjc⟩
theorem clash_self {b:List S91} (hs:Srt b) {c:S91} (hc:c ∈ b):clashB b c = false:=by
 obtain ⟨j,h1,h2⟩:=idx_at hs hc
 rw [clashB,h1,h2]
 simp
theorem att_self (nd at_:Int) {b:List S91} (hs:Srt b):∀ (l:List S91) (bd:List S56),(∀ c ∈ l,c ∈ b) → attB nd at_ b l bd = bd
 | [],_,_=>rfl
 | c :: l,bd,h=>by
  rw [attB,clash_self hs (h c List.mem_cons_self),if_neg (by decide)]
  exact att_self nd at_ hs l bd (fun x hx=>h x (List.mem_cons_of_mem _ hx))
theorem raw_twice {x a:List S91} (hx:VA false x) (ha:VA true a):mrg rawE (mrg rawE x a) a = mrg rawE x a :=
 look_ext (va_raw (va_raw hx ha) ha).2 (va_raw hx ha).2 (fun n=>by rw [look_raw (va_raw hx ha) ha,look_raw hx ha];cases look a n <;> rfl)
theorem jn_both (nd:Int) (o:List S26) (p:Side) (n:Nat) (hx:∀ i:Nat,i < n → VA false (rd_T26 o (i:Int)).f2 ∧ VA true (rd_L3 p.2.2 (i:Int))):∀ i,i ≤ n → jnP nd o p p i = (wv o p i,[])
 | 0,_=>rfl
 | i + 1,hi=>by
  have e1:∀ t,stO o p p i t = t ++ rd_L5 p.1 (i:Int):=fun t=>by rw [stO,sm_self,gapO,if_pos (.inr rfl)]
  have e2:∀ t bd,stB nd p p i t bd = bd:=fun t bd=>by rw [stB,sm_self,gapB,if_pos (.inr (.inl rfl))]
  obtain ⟨h1,h2⟩:=hx i (by omega)
  rw [jnP,jn_both nd o p n hx i (by omega),jnS,e1,e2,wv]
  cases hc:p.2.1.getD i false with
  | true =>
   rw [elemO,elemB,if_pos (by rfl),if_pos (by rfl),if_pos rfl,List.append_nil,if_neg (by simp [cutC])]
  | false =>
   rw [elemO,elemB,if_neg (by decide),if_neg (by decide),if_neg (by decide),att_self _ _ h2.2 _ _ (fun c hc=>hc),raw_twice h1 h2,List.append_assoc]
   rfl
theorem fsame_l0 (a b:List S26) (hs:∀ x ∈ a,x.f2.length ≤ 1099511627776) (hla:a.length ≤ 1073741824) (hab:a.length = b.length) (d:Nat):∀ i,i + d = a.length → ∃ r,Ev (fun k=>flow_Same.l0 k b a (a.length:Int) (i:Int)) r ∧ (r = true ↔ a.drop i = b.drop i):=by
 induction d with
 | zero =>
  intro i hi
  refine ⟨true,Ev.step (f:=fun _=>some true) (fun k=>?_) (Ev.now _),?_⟩
  ·simp only [flow_Same.l0]
   rw [if_neg (by omega)]
  ·rw [List.drop_eq_nil_of_le (by omega),List.drop_eq_nil_of_le (by omega)]
   exact ⟨fun _=>rfl,fun _=>rfl⟩
 | succ d ih =>
  intro i hi
  have da:=drop_T26 a i (by omega)
  have db:=drop_T26 b i (by omega)
  have hm:rd_T26 a (i:Int) ∈ a:=List.mem_of_mem_drop (i:=i) (by rw [da];exact List.mem_cons_self)
  obtain ⟨q,eq,hq⟩:=ih (i + 1) (by omega)
  obtain ⟨x,hx⟩:∃ x,x = rd_T26 a (i:Int):=⟨_,rfl⟩
  obtain ⟨y,hy⟩:∃ y,y = rd_T26 b (i:Int):=⟨_,rfl⟩
  rw [← hx] at da hm
  rw [← hy] at db
  obtain ⟨s,es,hss⟩:=asame_ev x.f2 y.f2 (hs x hm)
  rw [da,db]
  have e:∀ k,flow_Same.l0 (k + 1) b a (a.length:Int) (i:Int) = if x.f0 = y.f0 then (if x.f1 = y.f1 then (attr_Same.f k x.f2 y.f2).bind (fun t=>if t = true then flow_Same.l0 k b a (a.length:Int) ((i + 1:Nat):Int) else some false) else some false) else some false:=fun k=>by
   simp only [flow_Same.l0]
   rw [if_pos (by omega),if_pos (by omega),if_pos (by omega),if_pos (by omega),← hx,← hy,wr64 (by omega) (by omega)]
   rfl
  by_cases h0:x.f0 = y.f0
  ·by_cases h1:x.f1 = y.f1
   ·cases s with
    | true =>
     refine ⟨q,Ev.step (fun k=>by rw [e,if_pos h0,if_pos h1]) (Ev.bind es (Ev.congr (fun k=>by rw [if_pos rfl]) eq)),?_⟩
     rw [hq]
     have h2:=hss.1 rfl
     have hxy:x = y:=by cases x;cases y;simp only at h0 h1 h2;subst h0 h1 h2;rfl
     rw [hxy]
     exact ⟨fun h=>by rw [h],fun h=>by injection h⟩
    | false =>
     refine ⟨false,Ev.step (fun k=>by rw [e,if_pos h0,if_pos h1]) (Ev.bind es (Ev.congr (fun k=>by rw [if_neg (by decide)]) (Ev.now false))),?_⟩
     refine ⟨(fun h=>by cases h),fun h=>?_⟩
     injection h with h _
     have:=hss.2 (by rw [h])
     cases this
   ·refine ⟨false,Ev.step (f:=fun _=>some false) (fun k=>by rw [e,if_pos h0,if_neg h1]) (Ev.now _),⟨(fun h=>by cases h),fun h=>?_⟩⟩
    injection h with h _
    exact absurd (by rw [h]) h1
  ·refine ⟨false,Ev.step (f:=fun _=>some false) (fun k=>by rw [e,if_neg h0]) (Ev.now _),⟨(fun h=>by cases h),fun h=>?_⟩⟩
   injection h with h _
   exact absurd (by rw [h]) h0
theorem smB_iff (a b:List S26):smB a b = true ↔ a = b:=by unfold smB;exact @decide_eq_true_iff _ (Classical.propDecidable _)
theorem fsame_ev (a b:List S26) (hs:∀ x ∈ a,x.f2.length ≤ 1099511627776) (hla:a.length ≤ 1073741824):Ev (fun k=>flow_Same.f k a b) (smB a b):=by
 by_cases hab:a.length = b.length
 ·obtain ⟨r,er,hr⟩:=fsame_l0 a b hs hla hab a.length 0 (by omega)
  have h1:smB a b = r:=by
   rw [Bool.eq_iff_iff,smB_iff,hr]
   rfl
  rw [h1]
  exact Ev.congr (fun k=>by unfold flow_Same.f;rw [if_pos (by omega)];rfl) er
 ·have h1:smB a b = false:=by
   rw [Bool.eq_false_iff]
   exact fun h=>hab (by rw [(smB_iff a b).1 h])
  rw [h1]
  exact Ev.congr (fun k=>by unfold flow_Same.f;rw [if_neg (by omega)]) (Ev.now _)
theorem ev_all {α:Type} {f:Nat → Nat → Option α} {r:Nat → α}:∀ n,(∀ i,i ≤ n → Ev (f i) (r i)) → ∃ K,∀ k,K ≤ k → ∀ i,i ≤ n → f i k = some (r i)
 | 0,h=>by
  obtain ⟨K,hK⟩:=h 0 (Nat.le_refl 0)
  exact ⟨K,fun k hk i hi=>by obtain rfl:i = 0:=(by omega);exact hK k hk⟩
 | n + 1,h=>by
  obtain ⟨K,hK⟩:=ev_all n (fun i hi=>h i (by omega))
  obtain ⟨L,hL⟩:=h (n + 1) (Nat.le_refl _)
  refine ⟨K + L,fun k hk i hi=>?_⟩
  by_cases e:i = n + 1
  ·subst e;exact hL k (by omega)
  ·exact hK k (by omega) i (by omega)
theorem fill_from {α:Type} (l:List α) (i:Nat) (x z:α):∀ n j,(fillS l i x n).getD j z = x ∨ (fillS l i x n).getD j z = l.getD j z
 | 0,j=>.inr rfl
 | n + 1,j=>by
  rw [fillS,getD_set]
  split
  ·exact .inl rfl
  ·exact fill_from l i x z n j
theorem side_from:∀ (d:List S95) (t:Side) (i:Nat) (j:Nat),(rd_L5 (rdL d t i).1 (j:Int) = rd_L5 t.1 (j:Int) ∨ ∃ s ∈ d,s.f0 = 1 ∧ rd_L5 (rdL d t i).1 (j:Int) = s.f3) ∧ (rd_L3 (rdL d t i).2.2 (j:Int) = rd_L3 t.2.2 (j:Int) ∨ ∃ s ∈ d,s.f0 ≠ 1 ∧ rd_L3 (rdL d t i).2.2 (j:Int) = s.f2)
 | [],t,i,j=>⟨.inl rfl,.inl rfl⟩
 | s :: d,t,i,j=>by
  obtain ⟨h1,h2⟩:=side_from d (rdS s t i) (rdI s i) j
  rw [rdL]
  have k1:rd_L5 (rdS s t i).1 (j:Int) = rd_L5 t.1 (j:Int) ∨ (s.f0 = 1 ∧ rd_L5 (rdS s t i).1 (j:Int) = s.f3):=by
   unfold rdS
   by_cases c1:s.f0 = 1
   ·rw [if_pos c1]
    show rd_L5 (t.1.set i s.f3) (j:Int) = _ ∨ _
    rw [rd5,rd5,getD_set]
    split
    ·exact .inr ⟨c1,rfl⟩
    ·exact .inl rfl
   ·rw [if_neg c1];split <;> exact .inl rfl
  have k2:rd_L3 (rdS s t i).2.2 (j:Int) = rd_L3 t.2.2 (j:Int) ∨ (s.f0 ≠ 1 ∧ rd_L3 (rdS s t i).2.2 (j:Int) = s.f2):=by
   unfold rdS
   by_cases c1:s.f0 = 1
   ·rw [if_pos c1];exact .inl rfl
   ·rw [if_neg c1]
    by_cases c2:s.f0 = 2
    ·rw [if_pos c2];exact .inl rfl
    ·rw [if_neg c2]
     show rd_L3 (fillS t.2.2 i s.f2 s.f1.toNat) (j:Int) = _ ∨ _
     rw [rd3,rd3]
     rcases fill_from t.2.2 i s.f2 [] s.f1.toNat j with h | h
     ·exact .inr ⟨c1,h⟩
     ·exact .inl h
  constructor
  ·rcases h1 with h1 | ⟨q,hq,hq1,h1⟩
   ·rw [h1]
    rcases k1 with k1 | ⟨k0,k1⟩
    ·exact .inl k1
    ·exact .inr ⟨s,List.mem_cons_self,k0,k1⟩
   ·exact .inr ⟨q,List.mem_cons_of_mem _ hq,hq1,h1⟩
  ·rcases h2 with h2 | ⟨q,hq,hq1,h2⟩
   ·rw [h2]
    rcases k2 with k2 | ⟨k0,k2⟩
    ·exact .inl k2
    ·exact .inr ⟨s,List.mem_cons_self,k0,k2⟩
   ·exact .inr ⟨q,List.mem_cons_of_mem _ hq,hq1,h2⟩
structure SideOK (p:Side):Prop where
 a:∀ j:Nat,(rd_L5 p.1 (j:Int)).length ≤ 200 ∧ ∀ x ∈ rd_L5 p.1 (j:Int),ElemOK x ∧ x.f2.length ≤ 2097152
 t:∀ j:Nat,(rd_L3 p.2.2 (j:Int)).length ≤ 2097152 ∧ VA true (rd_L3 p.2.2 (j:Int))
theorem side_ok {n:Nat} {d:List S95} (fo:FO 2097152 d) (hl:(units d).length ≤ 200):SideOK (sideOf n d):=by
 constructor
 ·intro j
  rcases (side_from d (triv n) 0 j).1 with h | ⟨s,hs,h0,h⟩
  ·show (rd_L5 (rdL d (triv n) 0).1 (j:Int)).length ≤ 200 ∧ ∀ x ∈ rd_L5 (rdL d (triv n) 0).1 (j:Int),_
   rw [h,triv_a]
   exact ⟨Nat.zero_le _,fun x hx=>by cases hx⟩
  ·show (rd_L5 (rdL d (triv n) 0).1 (j:Int)).length ≤ 200 ∧ ∀ x ∈ rd_L5 (rdL d (triv n) 0).1 (j:Int),_
   rw [h]
   have h1:=units_mem fo.ok s hs
   have h2:=us_len (fo.ok s hs)
   refine ⟨by omega,fun x hx=>⟨?_,(fo.att s hs).2 x hx⟩⟩
   rcases fo.ok s hs with k | k | k
   ·omega
   ·exact pok_mem.1 k.2.2.2.2 x hx
   ·omega
 ·intro j
  rcases (side_from d (triv n) 0 j).2 with h | ⟨s,hs,h0,h⟩
  ·show (rd_L3 (rdL d (triv n) 0).2.2 (j:Int)).length ≤ 2097152 ∧ VA true (rd_L3 (rdL d (triv n) 0).2.2 (j:Int))
   rw [h,triv_t]
   exact ⟨Nat.zero_le _,va_nil true⟩
  ·show (rd_L3 (rdL d (triv n) 0).2.2 (j:Int)).length ≤ 2097152 ∧ VA true (rd_L3 (rdL d (triv n) 0).2.2 (j:Int))
   rw [h]
   refine ⟨(fo.att s hs).1,?_⟩
   rcases fo.ok s hs with k | k | k
   ·exact k.2.2.2.2
   ·omega
   ·rw [k.2.2.2.2];exact va_nil true
theorem elemO_all {P:S26 → Prop} {t:List S26} {x:S26} {a b:List S91} {u v:Bool} (ht:∀ y ∈ t,P y) (hx:P ⟨x.f0,x.f1,mrg rawE (mrg rawE x.f2 b) a⟩):∀ y ∈ elemO t x a b u v,P y:=by
 intro y hy
 unfold elemO at hy
 split at hy
 ·exact ht y hy
 ·rcases List.mem_append.1 hy with h | h
  ·exact ht y h
  ·rw [List.mem_singleton.1 h];exact hx
theorem gapO_all {P:S26 → Prop} {t a b:List S26} {sm:Bool} (ht:∀ y ∈ t,P y) (ha:∀ y ∈ a,P y) (hb:∀ y ∈ b,P y):∀ y ∈ gapO t a b sm,P y:=by
 intro y hy
 unfold gapO at hy
 split at hy
 ·rcases List.mem_append.1 hy with h | h
  ·exact ht y h
  ·exact ha y h
 ·rcases List.mem_append.1 hy with h | h
  ·rcases List.mem_append.1 h with h | h
   ·exact ht y h
   ·exact ha y h
  ·exact hb y h
def Fit (y:S26):Prop:=VA false y.f2 ∧ y.f2.length ≤ 8388608
theorem jn_fit (nd:Int) {o:List S26} {p q:Side} (hp:SideOK p) (hq:SideOK q) (ho:∀ i:Nat,i < o.length → VA false (rd_T26 o (i:Int)).f2 ∧ (rd_T26 o (i:Int)).f2.length ≤ 1048576):∀ i,i ≤ o.length → ∀ y ∈ (jnP nd o p q i).1,Fit y
 | 0,_=>fun y hy=>by cases hy
 | i + 1,hi=>by
  have hg:∀ y ∈ stO o p q i (jnP nd o p q i).1,Fit y:=gapO_all (jn_fit nd hp hq ho i (by omega)) (fun y hy=>⟨((hp.a i).2 y hy).1.2,by have:=((hp.a i).2 y hy).2;omega⟩) (fun y hy=>⟨((hq.a i).2 y hy).1.2,by have:=((hq.a i).2 y hy).2;omega⟩)
  obtain ⟨h1,h2⟩:=ho i (by omega)
  refine elemO_all hg ⟨va_raw (va_raw h1 (hq.t i).2) (hp.t i).2,?_⟩
  have e1:=mrg_len rawE (mrg rawE (rd_T26 o (i:Int)).f2 (rd_L3 q.2.2 (i:Int))) (rd_L3 p.2.2 (i:Int))
  have e2:=mrg_len rawE (rd_T26 o (i:Int)).f2 (rd_L3 q.2.2 (i:Int))
  have e3:=(hp.t i).1
  have e4:=(hq.t i).1
  show (mrg rawE _ _).length ≤ _
  omega
theorem rd26_in {o:List S26} {i:Nat} (h:i < o.length):rd_T26 o (i:Int) ∈ o:=by
 have:=drop_T26 o i h
 exact List.mem_of_mem_drop (i:=i) (by rw [this];exact List.mem_cons_self)
theorem rd26_out {o:List S26} {i:Nat} (h:o.length ≤ i):rd_T26 o (i:Int) = z26:=by
 rw [rd_T26,Int.toNat_natCast,List.getD_eq_getElem?_getD,List.getElem?_eq_none h];rfl
theorem oldL_units:∀ {d:List S95},(∀ s ∈ d,StepOK s) → oldL d = nold (units d)
 | [],_=>rfl
 | s :: d,h=>by rw [oldL,units_cons,nold_app,nold_us (h s List.mem_cons_self),oldL_units (fun x hx=>h x (List.mem_cons_of_mem _ hx))]
theorem step_pos {s:S95} (h:StepOK s):0 ≤ s.f1:=by rcases h with h | h | h <;> omega
structure GoodF (f:List S26):Prop where
 len:f.length ≤ 64
 ok:∀ x ∈ f,ElemOK x ∧ x.f2.length ≤ 1048576
theorem GoodF.small {f:List S26} (h:GoodF f):FSmall f:=⟨by have:=h.len;omega,fun x hx=>⟨va_small (h.ok x hx).1.2 (by have:=(h.ok x hx).2;omega),by have:=(h.ok x hx).2;omega⟩⟩
structure DifOK (o a:List S26) (d:List S95):Prop where
 ev:Ev (fun k=>rawF k o a) d
 fo:FO 2097152 d
 old:nold (units d) = o.length
 run:(run o (units d)).1 = a
 cost:costU (units d) = tcT o a
 len:(units d).length ≤ 200
theorem dif_ok {o a:List S26} (ho:GoodF o) (ha:GoodF a):∃ d,DifOK o a d:=by
 have h1:=ho.len
 have h2:=ha.len
 obtain ⟨d,e,f,n,r,c,l⟩:=rawF_spec o a (by omega) (by omega) ho.ok ha.ok
 exact ⟨d,e,f,n,r,c,by omega⟩
theorem fl_at {o a b:List S26} {da db:List S95} (ho:GoodF o) (ha:GoodF a) (hb:GoodF b) (hda:DifOK o a da) (hdb:DifOK o b db):∃ K,∀ k,K ≤ k → FlAt k o a b da db:=by
 have l0:=ho.len
 have l1:=ha.len
 have l2:=hb.len
 have fa:=side_ok (n:=o.length) hda.fo hda.len
 have fb:=side_ok (n:=o.length) hdb.fo hdb.len
 obtain ⟨_,ra⟩:=sideOf_run hda.fo.ok hda.fo.ord hda.old
 obtain ⟨_,rb⟩:=sideOf_run hdb.fo.ok hdb.fo.ord hdb.old
 have hx:∀ i:Nat,VA false (rd_T26 o (i:Int)).f2 ∧ (rd_T26 o (i:Int)).f2.length ≤ 1048576:=fun i=>by
  by_cases h:i < o.length
  ·exact ⟨(ho.ok _ (rd26_in h)).1.2,(ho.ok _ (rd26_in h)).2⟩
  ·rw [rd26_out (by omega)];exact ⟨va_nil false,Nat.zero_le _⟩
 have len:∀ {d:List S95},(∀ s ∈ d,StepOK s) → (units d).length ≤ 200 → d.length ≤ 1073741824:=fun h1 h2=>by have:=units_len h1;omega
 obtain ⟨p,hp⟩:∃ p,p = sideOf o.length da:=⟨_,rfl⟩
 obtain ⟨q,hq⟩:∃ q,q = sideOf o.length db:=⟨_,rfl⟩
 rw [← hp] at fa ra
 rw [← hq] at fb rb
 obtain ⟨K0,g0⟩:=ev_all (f:=fun i k=>flow_Same.f k (rd_L5 p.1 (i:Int)) (rd_L5 q.1 (i:Int))) (r:=fun i=>smB (rd_L5 p.1 (i:Int)) (rd_L5 q.1 (i:Int))) o.length
  (fun i _=>fsame_ev _ _ (fun x hx=>by have:=((fa.a i).2 x hx).2;omega) (by have:=(fa.a i).1;omega))
 have hfit:=jn_fit 0 fa fb (fun i _=>hx i) o.length (Nat.le_refl _)
 have hfo:∀ y ∈ jnO 0 o p q,Fit y:=gapO_all hfit (fun y hy=>⟨((fa.a _).2 y hy).1.2,by have:=((fa.a _).2 y hy).2;omega⟩) (fun y hy=>⟨((fb.a _).2 y hy).1.2,by have:=((fb.a _).2 y hy).2;omega⟩)
 have jb:∀ k,K0 ≤ k → JnB k o p q:=fun k hk=>⟨l0,ra.la,ra.lc,ra.lt,rb.la,rb.lc,rb.lt,fun i=>⟨by have:=(fa.a i).1;omega,by have:=(fb.a i).1;omega⟩,fun i=>⟨by have:=(fa.t i).1;omega,by have:=(fb.t i).1;omega⟩,fun i=>(hx i).2,fun i hi=>g0 k hk i hi⟩
 have hjl:(jnO 0 o p q).length ≤ 1073741824:=by
  have h1:=(jb K0 (Nat.le_refl _)).len 0 o.length
  have h2:=(fa.a o.length).1
  have h3:=(fb.a o.length).1
  have e2:(jnO 0 o p q).length ≤ (jnP 0 o p q o.length).1.length + (rd_L5 p.1 (o.length:Int)).length + (rd_L5 q.1 (o.length:Int)).length:=gapO_len _ _ _ _
  omega
 have hcp:=copy_ev (jnO 0 o p q) ⟨hjl,fun x hx=>⟨va_small (hfo x hx).1 (by have:=(hfo x hx).2;omega),by have:=(hfo x hx).2;omega⟩⟩
 obtain ⟨c0,ec0,ic0⟩:=part_ev o ho.small
 obtain ⟨c1,ec1,ic1⟩:=part_ev a ha.small
 obtain ⟨c2,ec2,ic2⟩:=part_ev b hb.small
 obtain rfl:c0 = 0:=ic0.2 (pok_mem.2 (fun x hx=>(ho.ok x hx).1))
 obtain rfl:c1 = 0:=ic1.2 (pok_mem.2 (fun x hx=>(ha.ok x hx).1))
 obtain rfl:c2 = 0:=ic2.2 (pok_mem.2 (fun x hx=>(hb.ok x hx).1))
 obtain ⟨K1,g1⟩:=ec0
 obtain ⟨K2,g2⟩:=ec1
 obtain ⟨K3,g3⟩:=ec2
 obtain ⟨K4,g4⟩:=hda.ev
 obtain ⟨K5,g5⟩:=hdb.ev
 obtain ⟨K6,g6⟩:=hcp
 refine ⟨K0 + K1 + K2 + K3 + K4 + K5 + K6,fun k hk=>⟨g1 k (by omega),g2 k (by omega),g3 k (by omega),by omega,by omega,by omega,g4 k (by omega),g5 k (by omega),
  ⟨len hda.fo.ok hda.len,by rw [oldL_units hda.fo.ok,hda.old];exact Nat.le_refl _,fun s hs=>step_pos (hda.fo.ok s hs)⟩,⟨len hdb.fo.ok hdb.len,by rw [oldL_units hdb.fo.ok,hdb.old];exact Nat.le_refl _,fun s hs=>step_pos (hdb.fo.ok s hs)⟩,?_,?_⟩⟩
 ·rw [← hp,← hq];exact jb k (by omega)
 ·rw [← hp,← hq];exact g6 k (by omega)
theorem flIs_one {o a b:List S26} {r q:List S26 × List S56} (h:FlIs o a b r) (h':FlIs o a b q):r = q:=by
 obtain ⟨da,db,⟨K,hf⟩,rfl⟩:=h
 obtain ⟨da',db',⟨K',hf'⟩,rfl⟩:=h'
 have h1:=hf (K + K') (by omega)
 have h2:=hf' (K + K') (by omega)
 have e1:da = da':=Option.some.inj (h1.qa.symm.trans h2.qa)
 have e2:db = db':=Option.some.inj (h1.qb.symm.trans h2.qb)
 rw [e1,e2]
theorem flows_is {o a b:List S26} {r:List S26 × List S56} (h:FlIs o a b r):merge_Flows.f o a b = some (r.1,r.2,0):=by
 have hx:∃ r,FlIs o a b r:=⟨r,h⟩
 unfold merge_Flows.f
 rw [dif_pos hx,flIs_one hx.choose_spec h]
theorem side_same {o:List S26} {d:List S95} (h:DifOK o o d):sideOf o.length d = triv o.length :=
 side_triv o.length d 0 (keeps_of h.fo.ok (by rw [h.cost];exact tcT_self o))
theorem side_leads {o a:List S26} {d:List S95} (h:DifOK o a d):wv o (sideOf o.length d) o.length ++ rd_L5 (sideOf o.length d).1 (o.length:Int) = a:=by
 rw [(sideOf_run h.fo.ok h.fo.ord h.old).1,h.run]
section
variable {o a:List S26} (ho:GoodF o) (ha:GoodF a)
include ho ha
theorem flows_left:merge_Flows.f o a o = some (a,[],0):=by
 obtain ⟨da,hda⟩:=dif_ok ho ha
 obtain ⟨dz,hdz⟩:=dif_ok ho ho
 have h:=flows_is (r:=(jnO 0 o (sideOf o.length da) (sideOf o.length dz),jnB 0 o (sideOf o.length da) (sideOf o.length dz))) ⟨da,dz,fl_at ho ha ho hda hdz,rfl⟩
 rw [h,side_same hdz]
 have e:=jn_left 0 o (sideOf o.length da) o.length (fun i hi=>(ho.ok _ (rd26_in hi)).1.2) o.length (Nat.le_refl _)
 have e1:jnO 0 o (sideOf o.length da) (triv o.length) = a:=by
  unfold jnO stO
  rw [e,triv_a,gapO,if_pos (.inl rfl)]
  exact side_leads hda
 have e2:jnB 0 o (sideOf o.length da) (triv o.length) = []:=by
  unfold jnB stB
  rw [e,triv_a,gapB,if_pos (.inl rfl)]
 rw [e1,e2]
theorem flows_right:merge_Flows.f o o a = some (a,[],0):=by
 obtain ⟨da,hda⟩:=dif_ok ho ha
 obtain ⟨dz,hdz⟩:=dif_ok ho ho
 have h:=flows_is (r:=(jnO 0 o (sideOf o.length dz) (sideOf o.length da),jnB 0 o (sideOf o.length dz) (sideOf o.length da))) ⟨dz,da,fl_at ho ho ha hdz hda,rfl⟩
 rw [h,side_same hdz]
 have fa:=side_ok (n:=o.length) hda.fo hda.len
 have e:=jn_right 0 o (sideOf o.length da) o.length (fun i hi=>va_raw (ho.ok _ (rd26_in hi)).1.2 (fa.t i).2) o.length (Nat.le_refl _)
 have e1:jnO 0 o (triv o.length) (sideOf o.length da) = a:=by
  unfold jnO stO
  rw [e,triv_a,gapO]
  split
  ·rename_i hq
   have hz:rd_L5 (sideOf o.length da).1 (o.length:Int) = []:=by
    rcases hq with hq | hq
    ·exact List.eq_nil_of_length_eq_zero hq
    ·exact ((smB_iff _ _).1 hq).symm
   have:=side_leads hda
   rw [hz] at this
   exact this
  ·rw [List.append_nil]
   exact side_leads hda
 have e2:jnB 0 o (triv o.length) (sideOf o.length da) = []:=by
  unfold jnB stB
  rw [e,triv_a,gapB,if_pos (.inr (.inr rfl))]
 rw [e1,e2]
theorem flows_both:merge_Flows.f o a a = some (a,[],0):=by
 obtain ⟨da,hda⟩:=dif_ok ho ha
 have h:=flows_is (r:=(jnO 0 o (sideOf o.length da) (sideOf o.length da),jnB 0 o (sideOf o.length da) (sideOf o.length da))) ⟨da,da,fl_at ho ha ha hda hda,rfl⟩
 rw [h]
 have fa:=side_ok (n:=o.length) hda.fo hda.len
 have e:=jn_both 0 o (sideOf o.length da) o.length (fun i hi=>⟨(ho.ok _ (rd26_in hi)).1.2,(fa.t i).2⟩) o.length (Nat.le_refl _)
 have e1:jnO 0 o (sideOf o.length da) (sideOf o.length da) = a:=by
  unfold jnO stO
  rw [e,sm_self,gapO,if_pos (.inr rfl)]
  exact side_leads hda
 have e2:jnB 0 o (sideOf o.length da) (sideOf o.length da) = []:=by
  unfold jnB stB
  rw [e,sm_self,gapB,if_pos (.inr (.inl rfl))]
 rw [e1,e2]
end
def AB:List S26:=[⟨97,0,[]⟩,⟨98,0,[]⟩]
def AXB:List S26:=[⟨97,0,[]⟩,⟨120,0,[]⟩,⟨98,0,[]⟩]
theorem let_axb:chancerykeep1_letters.f 30 (⟨#[97,120,98]⟩:ByteArray) = some AXB:=by kernel_rfl
theorem let_ab':chancerykeep1_letters.f 30 (⟨#[97,98]⟩:ByteArray) = some AB:=by kernel_rfl
theorem good_of {l:List S26} (h0:l.length ≤ 64) (h:∀ x ∈ l,(1 ≤ x.f0 ∧ x.f1 = 0 ∧ CharOK x.f0) ∧ x.f2 = []):GoodF l :=
 ⟨h0,fun x hx=>by
  obtain ⟨h1,h2⟩:=h x hx
  exact ⟨⟨.inr ⟨h1.2.1,h1.2.2⟩,by rw [h2];exact va_nil false⟩,by rw [h2];exact Nat.zero_le _⟩⟩
theorem char_az {c:Int} (h:97 ≤ c) (h2:c ≤ 122):CharOK c:=.inr (.inr (.inl ⟨by omega,by omega⟩))
theorem good_ab:GoodF AB:=good_of (by decide) (fun x hx=>by
 rcases List.mem_cons.1 hx with rfl | hx
 ·exact ⟨⟨by decide,rfl,char_az (by decide) (by decide)⟩,rfl⟩
 ·rw [List.mem_singleton.1 hx];exact ⟨⟨by decide,rfl,char_az (by decide) (by decide)⟩,rfl⟩)
theorem good_axb:GoodF AXB:=good_of (by decide) (fun x hx=>by
 rcases List.mem_cons.1 hx with rfl | hx
 ·exact ⟨⟨by decide,rfl,char_az (by decide) (by decide)⟩,rfl⟩
 ·rcases List.mem_cons.1 hx with rfl | hx
  ·exact ⟨⟨by decide,rfl,char_az (by decide) (by decide)⟩,rfl⟩
  ·rw [List.mem_singleton.1 hx];exact ⟨⟨by decide,rfl,char_az (by decide) (by decide)⟩,rfl⟩)
theorem merges_ev:Ev (fun k=>chancerykeep1_merges.f k) true:=by
 have h1:Ev (fun k=>chancerykeep1_letters.f k (⟨#[97,98]⟩:ByteArray)) AB:=Ev.of (fun k=>chancerykeep1_letters.mono _ k) let_ab'
 have h2:Ev (fun k=>chancerykeep1_letters.f k (⟨#[97,120,98]⟩:ByteArray)) AXB:=Ev.of (fun k=>chancerykeep1_letters.mono _ k) let_axb
 have h3:merge_Flows.f AB AXB AB = some (AXB,[],0):=flows_left good_ab good_axb
 have h4:=same_flow_ev AXB good_axb.small
 let g:Nat → Bool → Option Bool:=fun k t=>if t = true then some (((([]:List S56).length:Int)) == 0) else some false
 have h5:Ev (fun k=>g k true) true:=Ev.congr (fun k=>by show (if true = true then some (((([]:List S56).length:Int)) == 0) else some false) = _;rw [if_pos rfl];rfl) (Ev.now true)
 have h6:Ev (fun k=>(chanceryref1_SameFlow.f k AXB AXB).bind (g k)) true:=Ev.bind (f:=g) h4 h5
 let g2:Nat → List S26 → Option Bool:=fun k t=>(chanceryref1_SameFlow.f k AXB t).bind (g k)
 have h7:Ev (fun k=>(chancerykeep1_letters.f k (⟨#[97,120,98]⟩:ByteArray)).bind (g2 k)) true:=Ev.bind (f:=g2) h2 h6
 let f4:Nat → List S26 → List S26 → List S26 → Option Bool:=fun k a b c=>(merge_Flows.f a b c).bind fun bt=>if bt.2.2 = 0 then (chancerykeep1_letters.f k (⟨#[97,120,98]⟩:ByteArray)).bind (fun t=>(chanceryref1_SameFlow.f k bt.1 t).bind fun t=>if t = true then some (((bt.2.1.length:Int)) == 0) else some false) else some false
 have h8:Ev (fun k=>f4 k AB AXB AB) true:=Ev.congr (fun k=>by show (merge_Flows.f AB AXB AB).bind _ = _;rw [h3,Option.bind_some,if_pos rfl]) h7
 exact Ev.bind (f:=fun k a=>(chancerykeep1_letters.f k (⟨#[97,120,98]⟩:ByteArray)).bind fun b=>(chancerykeep1_letters.f k (⟨#[97,98]⟩:ByteArray)).bind fun c=>f4 k a b c) h1
  (Ev.bind (f:=fun k b=>(chancerykeep1_letters.f k (⟨#[97,98]⟩:ByteArray)).bind fun c=>f4 k AB b c) h2 (Ev.bind (f:=fun k c=>f4 k AB AXB c) h1 h8))
theorem cut60_fine {f:List S26} (hf:FFine f):FFine (cut60 f) ∧ (cut60 f).length ≤ 60:=by
 have hcl:(cut60 f).length ≤ 60 ∧ ∀ x ∈ cut60 f,x ∈ f:=by
  unfold cut60
  split
  ·exact ⟨by rw [List.length_take];omega,fun x hx=>List.mem_of_mem_take hx⟩
  ·exact ⟨by omega,fun x hx=>hx⟩
 exact ⟨⟨by omega,fun x hx=>hf.2 x (hcl.2 x hx)⟩,hcl.1⟩
theorem one_law (a b:List S26) (hfa:FFine a) (hfb:FFine b):∃ k,OneAt k a b:=by
 obtain ⟨ha,la⟩:=cut60_fine hfa
 obtain ⟨hb,lb⟩:=cut60_fine hfb
 unfold OneAt
 obtain ⟨A,hA⟩:∃ A,A = cut60 a:=⟨_,rfl⟩
 obtain ⟨B,hB⟩:∃ B,B = cut60 b:=⟨_,rfl⟩
 rw [← hA] at ha la
 rw [← hB] at hb lb
 rw [← hA,← hB]
 obtain ⟨L,gL⟩:=merges_ev
 obtain ⟨e,he,hei⟩:=rpart_ev A ha.small
 obtain ⟨K0,g0⟩:=he
 by_cases h0:e = 0
 rotate_left
 ·exact ⟨L + K0,gL _ (by omega),e,g0 _ (by omega),.inl h0⟩
 obtain ⟨f,hf,hfi⟩:=rpart_ev B hb.small
 obtain ⟨K1,g1⟩:=hf
 by_cases h1:f = 0
 rotate_left
 ·exact ⟨L + K0 + K1,gL _ (by omega),e,g0 _ (by omega),.inr ⟨h0,f,g1 _ (by omega),.inl h1⟩⟩
 have hpA:=hei.1 h0
 have hpB:=hfi.1 h1
 have qa:GoodF A:=⟨by omega,fun x hx=>⟨pok_mem.1 hpA x hx,(ha.2 x hx).2⟩⟩
 have qb:GoodF B:=⟨by omega,fun x hx=>⟨pok_mem.1 hpB x hx,(hb.2 x hx).2⟩⟩
 obtain ⟨K2,g2⟩:=same_flow_ev B hb.small
 exact ⟨L + K0 + K1 + K2,gL _ (by omega),e,g0 _ (by omega),.inr ⟨h0,f,g1 _ (by omega),.inr ⟨h1,flows_left qa qb,flows_right qa qb,flows_both qa qb,g2 _ (by omega)⟩⟩⟩
end Go.Proofs.Ytlcodfjlbhjkbaa.PDelta
end

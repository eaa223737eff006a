/- Parts of a flow, one after the other, are the flow. -/
import Derived.Test.YtdgemabmmomebaaDoorFlowA2
namespace Go.Proofs.YtdgemabmmomebaaDoor.PFlow
open Go.RowKit Go.Proofs.YtdgemabmmomebaaDoorW.PrintWords Go.Proofs.YtdgemabmmomebaaDoorW.PrintLast Go.Proofs.YtdgemabmmomebaaDoorW.PrintMore
set_option linter.unusedVariables false
set_option linter.unusedSimpArgs false

set_option maxRecDepth 100000 in
theorem flows_ev : Ev (fun k => chancerykeep1_flows.f k) true := Ev.of (fun k => chancerykeep1_flows.mono k) (by kernel_rfl : chancerykeep1_flows.f 60 = some true)
theorem slice_bad (f : List S31) (a b c : Int) (hc : Ev (fun k => flow_CheckPart.f k f) c) (h : c ≠ 0) : Ev (fun k => flow_Slice.f k f a b) (([] : List S31), c) :=
  Ev.bind (f := fun k t190 => (if t190 = 0 then (if a < 0 then (some (([] : List (S31)), 2)) else (if b < a then (some (([] : List (S31)), 2)) else (if b > (f.length : Int) then (some (([] : List (S31)), 2)) else (if 0 ≤ a then (if a ≤ b then (if b ≤ (f.length : Int) then ((flow_Copy.f k ((f.take (b : Int).toNat).drop (a : Int).toNat)).bind fun t195 => (some (t195, 0))) else (none)) else (none)) else (none))))) else (some (([] : List (S31)), t190)))) hc (Ev.congr (fun k => by rw [if_neg h]) (Ev.now _))
theorem slice_ok (f : List S31) (hs : FSmall f) (a b : Int) (hc : Ev (fun k => flow_CheckPart.f k f) 0) (h0 : 0 ≤ a) (h1 : a ≤ b) (h2 : b ≤ f.length) : Ev (fun k => flow_Slice.f k f a b) ((f.take b.toNat).drop a.toNat, 0) := by
  refine Ev.bind (f := fun k t190 => (if t190 = 0 then (if a < 0 then (some (([] : List (S31)), 2)) else (if b < a then (some (([] : List (S31)), 2)) else (if b > (f.length : Int) then (some (([] : List (S31)), 2)) else (if 0 ≤ a then (if a ≤ b then (if b ≤ (f.length : Int) then ((flow_Copy.f k ((f.take (b : Int).toNat).drop (a : Int).toNat)).bind fun t195 => (some (t195, 0))) else (none)) else (none)) else (none))))) else (some (([] : List (S31)), t190)))) hc ?_
  refine Ev.congr (f := fun k => (flow_Copy.f k ((f.take (b : Int).toNat).drop (a : Int).toNat)).bind fun t195 => some (t195, (0 : Int))) (fun k => ?_) ?_
  · rw [if_pos rfl, if_neg (by omega), if_neg (by omega), if_neg (by omega), if_pos h0, if_pos h1, if_pos h2]
  · refine Ev.bind (copy_ev _ (hs.sub (by simp; omega) (fun x hx => List.mem_of_mem_take (List.mem_of_mem_drop hx)))) (Ev.now _)
theorem slices_law (f : List S31) (x : Int) (hs : FSmall f) : ∃ k, chancerykeep1_FlowSlicesJoin.f k f x = some true := by
  have hs1 := hs.1
  obtain ⟨t, ht, t0, t1⟩ := within_ev x (f.length : Int) (by omega) (by omega)
  obtain ⟨c, hc, hci⟩ := part_ev f hs
  obtain ⟨p, hp, hpi⟩ := rpart_ev f hs
  refine Ev.rounds (g := fun k => chancerykeep1_FlowSlicesJoin.f k f x) ?_
  unfold chancerykeep1_FlowSlicesJoin.f
  refine Ev.bind flows_ev (Ev.congr (f := fun k => ((chanceryref1_Within.f x 0 (f.length : Int)).bind fun t227 => ((flow_Slice.f k f 0 t227).bind fun bt228 => ((flow_Slice.f k f t227 (f.length : Int)).bind fun bt232 => ((chanceryref1_PartError.f k f).bind fun t236 => (if t236 = 0 then (if bt228.2 = 0 then (if bt232.2 = 0 then (if bt228.1.length + bt232.1.length < 3518437208883 then ((chanceryref1_SameFlow.f k (bt228.1 ++ bt232.1) f).bind fun t240 => (some t240)) else (none)) else (some false)) else (some false)) else (if bt228.2 = 0 then (some false) else (some (bt232.2 == bt228.2))))))))) (fun k => by rw [if_pos rfl]) ?_)
  rw [ht]
  simp only [Option.bind_some]
  by_cases h : c = 0
  · subst h
    have hp0 : p = 0 := hpi.2 (hci.1 rfl)
    subst hp0
    refine Ev.bind (slice_ok f hs 0 t hc (Int.le_refl _) t0 t1) (Ev.bind (slice_ok f hs t (f.length : Int) hc t0 t1 (Int.le_refl _)) (Ev.bind hp ?_))
    have e : ((f.take t.toNat).drop (0 : Int).toNat ++ (f.take (f.length : Int).toNat).drop t.toNat) = f := by simp
    refine Ev.congr (f := fun k => (chanceryref1_SameFlow.f k f f).bind fun t240 => some t240) (fun k => ?_) (Ev.bind (same_flow_ev f hs) (Ev.now _))
    have hl : ((f.take t.toNat).drop (0 : Int).toNat).length + ((f.take (f.length : Int).toNat).drop t.toNat).length < 3518437208883 := by
      rw [← List.length_append, e]
      omega
    rw [if_pos rfl, if_pos rfl, if_pos rfl, if_pos hl, e]
  · have hp0 : p ≠ 0 := fun e => h (hci.2 (hpi.1 e))
    refine Ev.bind (slice_bad f 0 t c hc h) (Ev.bind (slice_bad f t _ c hc h) (Ev.bind hp ?_))
    refine Ev.congr (fun k => ?_) (Ev.now true)
    rw [if_neg hp0, if_neg h]
    simp
end Go.Proofs.YtdgemabmmomebaaDoor.PFlow

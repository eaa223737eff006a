/- The contracts of attr.Raw, Change, Without and Both in the form that the printed texts take. -/
-- PLUG attr.Raw plain making
-- PLUG attr.Change plain making
-- PLUG attr.Without plain making
-- PLUG attr.Both plain making
import Derived.Test.YtdgemabmmomebaaAttrPlug2
namespace Go.Proofs.Ytdgemabmmomebaa.PAttr
open Go.RowKit Go.Proofs.YtdgemabmmomebaaW.PrintWords Go.Proofs.YtdgemabmmomebaaW.PrintLast Go.Proofs.YtdgemabmmomebaaW.PrintMore
set_option linter.unusedVariables false
set_option linter.unusedSimpArgs false

theorem enters_any {g : Nat} {fn : Func} {c : Code} (hf : Try.prog.funcs[g]? = some fn) (hname : (fn.name == "runtime.NumGoroutine") = false) (hb : fn.body = some c) (args : Array Value) (w : World) :
    (callFunc g args).run Try.prog w = .ok (.enter g args) w := by
  have h1 : fn.name ≠ "runtime.NumGoroutine" := by simpa using hname
  simp [callFunc, hf, h1, hb, mark]
theorem outis_made (w : World) : OutIs w w.heap.size [] (w.alloc (.cells #[.slice none 0 0] 32)) :=
  ⟨.slice none 0 0, blk_new w _, Kd.R_nil _ _ _ _ _, below_alloc (Below.refl _ _) _⟩


theorem raw_any (w0 : World) (B : Nat) (out : List S38) (x y : S38) (w : World) (h0 : w0.heap.size ≤ B) (h : OutIs w0 B out w) (hl : (out.length + 1) * 32 ≤ 140737488355328) :
    Calls Try.prog 104 #[.agg #[.string x.f0, .string x.f1], .agg #[.string y.f0, .string y.f1], .pointer (some ⟨B, 0, none⟩)] w fun e w' => e = .returned (.tuple #[]) ∧ OutIs w0 B (rawV out x y) w' := by
  by_cases h1 : y.f0.toList = []
  · unfold rawV; rw [if_pos h1]; exact raw1a w0 B out x y w h0 h hl h1
  · by_cases h2 : y.f1.toList = []
    · unfold rawV; rw [if_neg h1, if_pos h2]; exact raw1b w0 B out x y w h0 h hl h1 h2
    · unfold rawV; rw [if_neg h1, if_neg h2]; exact raw1c w0 B out x y w h0 h hl h1 h2
theorem rawV_len (out : List S38) (x y : S38) : (rawV out x y).length ≤ out.length + 1 := by
  unfold rawV
  repeat (first | split | simp)
def attr_Raw.f (l0 l1 : List S38) : Option (List S38) := if (l0.length + l1.length) * 32 ≤ 140737488355328 then some (bothL rawV [] l0 l1) else none
set_option maxRecDepth 100000 in
set_option maxHeartbeats 4000000 in
theorem attr_Raw.calls (A0 : Option Addr) (c0 : Nat) (l0 : List (S38)) (A1 : Option Addr) (c1 : Nat) (l1 : List (S38)) (r : List (S38)) (w : World) (hr0 : Kd.C k38 w A0 l0.length l0) (hc0 : l0.length ≤ c0) (hr1 : Kd.C k38 w A1 l1.length l1) (hc1 : l1.length ≤ c1) (h : attr_Raw.f l0 l1 = some r) :
    Calls Try.prog 66 #[.slice A0 l0.length c0, .slice A1 l1.length c1] w fun e w' => ∃ v0_ : Value, e = .returned (v0_) ∧ Kd.R k38 38 w' w.heap.size (fun _ => True) v0_ r ∧ Below w.heap.size w w' := by
  unfold attr_Raw.f at h
  have hl : (l0.length + l1.length) * 32 ≤ 140737488355328 := by
    by_cases hl : (l0.length + l1.length) * 32 ≤ 140737488355328
    · exact hl
    · rw [if_neg hl] at h; cases h
  rw [if_pos hl] at h
  have HC := Aside0.mk (both_calls 104 (enters_any Try.func104 rfl rfl) rawV raw_any rawV_len w A0 c0 l0 A1 c1 l1 w.heap.size _ hr0 hr1 (Nat.le_refl _) (outis_made w) hl)
  have hmf : ∀ (fn : Fn) (first cap : Array Value) (w : World), (Instr.makeFunc fn first cap).run Try.prog w = .ok (.func fn first cap) w := fun _ _ _ _ => rfl
  have HR := Aside0.mk (Option.some.inj h)
  clear hr0 hr1 hc0 hc1 hl h
  go_enter Try.func66, Try.ntmps66
  go_wp2_with (go_at_call 103; refine HC.out.mono ?_)
  rintro e w' ⟨rfl, v, hv, hR, hB⟩
  obtain ⟨A2, c2, hv2⟩ := Kd.R_slice hR
  have hc : w'.cell? ⟨w.heap.size, 0, none⟩ = some v := (blk_cell hv 0).trans rfl
  have hR' := Aside0.mk hR
  have hB' := Aside0.mk hB
  rw [hv2] at hc
  have HV := Aside0.mk hv2
  clear hv hR hB hv2
  go_wp2
  go_ret
  exact ⟨v, by rw [HV.out]; rfl, by rw [← HR.out]; exact hR'.out, hB'.out⟩


theorem change_any (w0 : World) (B : Nat) (out : List S38) (x y : S38) (w : World) (h0 : w0.heap.size ≤ B) (h : OutIs w0 B out w) (hl : (out.length + 1) * 32 ≤ 140737488355328) :
    Calls Try.prog 105 #[.agg #[.string x.f0, .string x.f1], .agg #[.string y.f0, .string y.f1], .pointer (some ⟨B, 0, none⟩)] w fun e w' => e = .returned (.tuple #[]) ∧ OutIs w0 B (changeV out x y) w' := by
  by_cases h1 : y.f0.toList = []
  · unfold changeV; rw [if_pos h1]; exact change1a w0 B out x y w h0 h hl h1
  · by_cases h2 : x.f0.toList = y.f0.toList ∧ x.f1.toList = y.f1.toList
    · unfold changeV; rw [if_neg h1, if_pos h2]; exact change1b w0 B out x y w h0 h hl h1 h2
    · unfold changeV; rw [if_neg h1, if_neg h2]; exact change1c w0 B out x y w h0 h hl h1 h2
theorem changeV_len (out : List S38) (x y : S38) : (changeV out x y).length ≤ out.length + 1 := by
  unfold changeV
  repeat (first | split | simp)
def attr_Change.f (l0 l1 : List S38) : Option (List S38) := if (l0.length + l1.length) * 32 ≤ 140737488355328 then some (bothL changeV [] l0 l1) else none
set_option maxRecDepth 100000 in
set_option maxHeartbeats 4000000 in
theorem attr_Change.calls (A0 : Option Addr) (c0 : Nat) (l0 : List (S38)) (A1 : Option Addr) (c1 : Nat) (l1 : List (S38)) (r : List (S38)) (w : World) (hr0 : Kd.C k38 w A0 l0.length l0) (hc0 : l0.length ≤ c0) (hr1 : Kd.C k38 w A1 l1.length l1) (hc1 : l1.length ≤ c1) (h : attr_Change.f l0 l1 = some r) :
    Calls Try.prog 67 #[.slice A0 l0.length c0, .slice A1 l1.length c1] w fun e w' => ∃ v0_ : Value, e = .returned (v0_) ∧ Kd.R k38 38 w' w.heap.size (fun _ => True) v0_ r ∧ Below w.heap.size w w' := by
  unfold attr_Change.f at h
  have hl : (l0.length + l1.length) * 32 ≤ 140737488355328 := by
    by_cases hl : (l0.length + l1.length) * 32 ≤ 140737488355328
    · exact hl
    · rw [if_neg hl] at h; cases h
  rw [if_pos hl] at h
  have HC := Aside0.mk (both_calls 105 (enters_any Try.func105 rfl rfl) changeV change_any changeV_len w A0 c0 l0 A1 c1 l1 w.heap.size _ hr0 hr1 (Nat.le_refl _) (outis_made w) hl)
  have hmf : ∀ (fn : Fn) (first cap : Array Value) (w : World), (Instr.makeFunc fn first cap).run Try.prog w = .ok (.func fn first cap) w := fun _ _ _ _ => rfl
  have HR := Aside0.mk (Option.some.inj h)
  clear hr0 hr1 hc0 hc1 hl h
  go_enter Try.func67, Try.ntmps67
  go_wp2_with (go_at_call 103; refine HC.out.mono ?_)
  rintro e w' ⟨rfl, v, hv, hR, hB⟩
  obtain ⟨A2, c2, hv2⟩ := Kd.R_slice hR
  have hc : w'.cell? ⟨w.heap.size, 0, none⟩ = some v := (blk_cell hv 0).trans rfl
  have hR' := Aside0.mk hR
  have hB' := Aside0.mk hB
  rw [hv2] at hc
  have HV := Aside0.mk hv2
  clear hv hR hB hv2
  go_wp2
  go_ret
  exact ⟨v, by rw [HV.out]; rfl, by rw [← HR.out]; exact hR'.out, hB'.out⟩


theorem without_any (w0 : World) (B : Nat) (out : List S38) (x y : S38) (w : World) (h0 : w0.heap.size ≤ B) (h : OutIs w0 B out w) (hl : (out.length + 1) * 32 ≤ 140737488355328) :
    Calls Try.prog 106 #[.agg #[.string x.f0, .string x.f1], .agg #[.string y.f0, .string y.f1], .pointer (some ⟨B, 0, none⟩)] w fun e w' => e = .returned (.tuple #[]) ∧ OutIs w0 B (withoutV out x y) w' := by
  by_cases h1 : y.f0.toList = []
  · unfold withoutV; rw [if_pos h1]; exact without1a w0 B out x y w h0 h hl h1
  · unfold withoutV; rw [if_neg h1]; exact without1b w0 B out x y w h0 h hl h1
theorem withoutV_len (out : List S38) (x y : S38) : (withoutV out x y).length ≤ out.length + 1 := by
  unfold withoutV
  repeat (first | split | simp)
def attr_Without.f (l0 l1 : List S38) : Option (List S38) := if (l0.length + l1.length) * 32 ≤ 140737488355328 then some (bothL withoutV [] l0 l1) else none
set_option maxRecDepth 100000 in
set_option maxHeartbeats 4000000 in
theorem attr_Without.calls (A0 : Option Addr) (c0 : Nat) (l0 : List (S38)) (A1 : Option Addr) (c1 : Nat) (l1 : List (S38)) (r : List (S38)) (w : World) (hr0 : Kd.C k38 w A0 l0.length l0) (hc0 : l0.length ≤ c0) (hr1 : Kd.C k38 w A1 l1.length l1) (hc1 : l1.length ≤ c1) (h : attr_Without.f l0 l1 = some r) :
    Calls Try.prog 68 #[.slice A0 l0.length c0, .slice A1 l1.length c1] w fun e w' => ∃ v0_ : Value, e = .returned (v0_) ∧ Kd.R k38 38 w' w.heap.size (fun _ => True) v0_ r ∧ Below w.heap.size w w' := by
  unfold attr_Without.f at h
  have hl : (l0.length + l1.length) * 32 ≤ 140737488355328 := by
    by_cases hl : (l0.length + l1.length) * 32 ≤ 140737488355328
    · exact hl
    · rw [if_neg hl] at h; cases h
  rw [if_pos hl] at h
  have HC := Aside0.mk (both_calls 106 (enters_any Try.func106 rfl rfl) withoutV without_any withoutV_len w A0 c0 l0 A1 c1 l1 w.heap.size _ hr0 hr1 (Nat.le_refl _) (outis_made w) hl)
  have hmf : ∀ (fn : Fn) (first cap : Array Value) (w : World), (Instr.makeFunc fn first cap).run Try.prog w = .ok (.func fn first cap) w := fun _ _ _ _ => rfl
  have HR := Aside0.mk (Option.some.inj h)
  clear hr0 hr1 hc0 hc1 hl h
  go_enter Try.func68, Try.ntmps68
  go_wp2_with (go_at_call 103; refine HC.out.mono ?_)
  rintro e w' ⟨rfl, v, hv, hR, hB⟩
  obtain ⟨A2, c2, hv2⟩ := Kd.R_slice hR
  have hc : w'.cell? ⟨w.heap.size, 0, none⟩ = some v := (blk_cell hv 0).trans rfl
  have hR' := Aside0.mk hR
  have hB' := Aside0.mk hB
  rw [hv2] at hc
  have HV := Aside0.mk hv2
  clear hv hR hB hv2
  go_wp2
  go_ret
  exact ⟨v, by rw [HV.out]; rfl, by rw [← HR.out]; exact hR'.out, hB'.out⟩


theorem both_any (w0 : World) (B : Nat) (out : List S38) (x y : S38) (w : World) (h0 : w0.heap.size ≤ B) (h : OutIs w0 B out w) (hl : (out.length + 1) * 32 ≤ 140737488355328) :
    Calls Try.prog 107 #[.agg #[.string x.f0, .string x.f1], .agg #[.string y.f0, .string y.f1], .pointer (some ⟨B, 0, none⟩)] w fun e w' => e = .returned (.tuple #[]) ∧ OutIs w0 B (bothV out x y) w' := by
  by_cases h1 : y.f0.toList = []
  · unfold bothV; rw [if_pos h1]; exact both1a w0 B out x y w h0 h hl h1
  · unfold bothV; rw [if_neg h1]; exact both1b w0 B out x y w h0 h hl h1
theorem bothV_len (out : List S38) (x y : S38) : (bothV out x y).length ≤ out.length + 1 := by
  unfold bothV
  repeat (first | split | simp)
def attr_Both.f (l0 l1 : List S38) : Option (List S38) := if (l0.length + l1.length) * 32 ≤ 140737488355328 then some (bothL bothV [] l0 l1) else none
set_option maxRecDepth 100000 in
set_option maxHeartbeats 4000000 in
theorem attr_Both.calls (A0 : Option Addr) (c0 : Nat) (l0 : List (S38)) (A1 : Option Addr) (c1 : Nat) (l1 : List (S38)) (r : List (S38)) (w : World) (hr0 : Kd.C k38 w A0 l0.length l0) (hc0 : l0.length ≤ c0) (hr1 : Kd.C k38 w A1 l1.length l1) (hc1 : l1.length ≤ c1) (h : attr_Both.f l0 l1 = some r) :
    Calls Try.prog 69 #[.slice A0 l0.length c0, .slice A1 l1.length c1] w fun e w' => ∃ v0_ : Value, e = .returned (v0_) ∧ Kd.R k38 38 w' w.heap.size (fun _ => True) v0_ r ∧ Below w.heap.size w w' := by
  unfold attr_Both.f at h
  have hl : (l0.length + l1.length) * 32 ≤ 140737488355328 := by
    by_cases hl : (l0.length + l1.length) * 32 ≤ 140737488355328
    · exact hl
    · rw [if_neg hl] at h; cases h
  rw [if_pos hl] at h
  have HC := Aside0.mk (both_calls 107 (enters_any Try.func107 rfl rfl) bothV both_any bothV_len w A0 c0 l0 A1 c1 l1 w.heap.size _ hr0 hr1 (Nat.le_refl _) (outis_made w) hl)
  have hmf : ∀ (fn : Fn) (first cap : Array Value) (w : World), (Instr.makeFunc fn first cap).run Try.prog w = .ok (.func fn first cap) w := fun _ _ _ _ => rfl
  have HR := Aside0.mk (Option.some.inj h)
  clear hr0 hr1 hc0 hc1 hl h
  go_enter Try.func69, Try.ntmps69
  go_wp2_with (go_at_call 103; refine HC.out.mono ?_)
  rintro e w' ⟨rfl, v, hv, hR, hB⟩
  obtain ⟨A2, c2, hv2⟩ := Kd.R_slice hR
  have hc : w'.cell? ⟨w.heap.size, 0, none⟩ = some v := (blk_cell hv 0).trans rfl
  have hR' := Aside0.mk hR
  have hB' := Aside0.mk hB
  rw [hv2] at hc
  have HV := Aside0.mk hv2
  clear hv hR hB hv2
  go_wp2
  go_ret
  exact ⟨v, by rw [HV.out]; rfl, by rw [← HR.out]; exact hR'.out, hB'.out⟩

end Go.Proofs.Ytdgemabmmomebaa.PAttr

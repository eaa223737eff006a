/- The contracts of the four functions that attr hands to both: each adds to the captured list what it has to add. -/
import Derived.Test.YtdgemabmmomebaaPAttrx0
import Derived.Test.YtdgemabmmomebaaPAttrx1
namespace Go.Proofs.Ytdgemabmmomebaa.PAttr
open Go.RowKit Go.Proofs.YtdgemabmmomebaaW.PrintWords Go.Proofs.YtdgemabmmomebaaW.PrintLast Go.Proofs.YtdgemabmmomebaaW.PrintMore
set_option linter.unusedVariables false
set_option linter.unusedSimpArgs false
attribute [local go_sem high] eqA38

/-- The captured variable: block B holds a slice of the call's own that reads as out; what lay in w0 is as it was. -/
def OutIs (w0 : World) (B : Nat) (out : List S38) (w : World) : Prop :=
  ∃ v, w.heap[B]? = some (.cells #[v] 32 (0, 0)) ∧ Kd.R k38 38 w w0.heap.size (fun _ => True) v out ∧ Below w0.heap.size w0 w

theorem OutIs.below {w0 w W : World} {B : Nat} {out : List S38} (h : OutIs w0 B out w) (hb : Below w.heap.size w W) : OutIs w0 B out W := by
  obtain ⟨v, h1, h2, h3⟩ := h
  exact ⟨v, blk_below h1 hb, Kd.R_below h2 hb, below_step h3 hb⟩
theorem own_cell {w0 W w1 : World} {B : Nat} {v : Value} {out : List S38} (hv : W.heap[B]? = some (.cells #[v] 32 (0, 0))) (hR : Kd.R k38 38 W w0.heap.size (fun _ => True) v out) (hg : W.grownBy w1 v.ownBlock) :
    w1.heap[B]? = some (.cells #[v] 32 (0, 0)) := blk_grown hv hg (Kd.R_ne hR hv (by decide))
theorem own_stored {w0 w1 : World} {B : Nat} {v v1 : Value} {out' : List S38} (h0 : w0.heap.size ≤ B) (hv : w1.heap[B]? = some (.cells #[v] 32 (0, 0))) (hR1 : Kd.R k38 38 w1 w0.heap.size (fun _ => True) v1 out') (hB1 : Below w0.heap.size w0 w1) :
    OutIs w0 B out' (w1.setCell ⟨B, 0, none⟩ v1) :=
  ⟨v1, blk_put hv 0 v1 rfl, Kd.R_set hR1 hv (by decide) 0 v1, below_set hB1 h0⟩

def nil38 : S38 := ⟨⟨#[]⟩, ⟨#[]⟩⟩
def rawV (out : List S38) (x y : S38) : List S38 := if y.f0.toList = [] then out ++ [x] else if y.f1.toList = [] then out else out ++ [y]
def changeV (out : List S38) (x y : S38) : List S38 := if y.f0.toList = [] then out ++ [⟨x.f0, ⟨#[]⟩⟩] else if x.f0.toList = y.f0.toList ∧ x.f1.toList = y.f1.toList then out else out ++ [y]
def withoutV (out : List S38) (x y : S38) : List S38 := if y.f0.toList = [] then out ++ [x] else out
def bothV (out : List S38) (x y : S38) : List S38 := out ++ [if y.f0.toList = [] then x else y]


set_option maxRecDepth 100000 in
set_option maxHeartbeats 2000000 in
theorem raw1a (w0 : World) (B : Nat) (out : List S38) (x y : S38) (w : World) (h0 : w0.heap.size ≤ B) (h : OutIs w0 B out w) (hl : (out.length + 1) * 32 ≤ 140737488355328) (h1 : y.f0.toList = []) :
    Calls Try.prog 104 #[.agg #[.string x.f0, .string x.f1], .agg #[.string y.f0, .string y.f1], .pointer (some ⟨B, 0, none⟩)] w fun e w' => e = .returned (.tuple #[]) ∧ OutIs w0 B (out ++ [x]) w' := by
  obtain ⟨v, hv, hR, hb⟩ := h
  have hu38 := Try.underlying38
  have c1 : (y.f0.toList == ([] : List UInt8)) = true := beq_iff_eq.mpr h1
  clear h1
  have HR := Aside0.mk hR
  have HB := Aside0.mk hb
  have HV := Aside0.mk hv
  have hc0 : w.cell? ⟨B, 0, none⟩ = some v := (blk_cell hv 0).trans rfl
  have hB : B < w.heap.size := blk_lt hv
  have HL := Aside0.mk hl
  have H0 := Aside0.mk h0
  clear hR hb hv hl h0
  go_enter Try.func104, Try.ntmps104
  go_wp2_with (at_builtin; refine Kd.R_append k38 (w0 := w0) w0.heap.size rfl (.tmp 9) (.tmp 11) 32 38 (.agg #[.string ⟨#[]⟩, .string ⟨#[]⟩]) 32 rfl Try.underlying32 info38 rfl (by decide) (by decide) v out x _ (fun _ => True) (fun _ => False) rfl (by simp [Act.eval]) (k38_mkM _ _ _ _) (fun _ h => h.elim) (fun _ _ => trivial) (Kd.R_below HR.out (below_alloc (below_alloc (Below.refl _ _) _) _)) (below_step HB.out (below_alloc (below_alloc (Below.refl _ _) _) _)) (below_size (below_step HB.out (below_alloc (below_alloc (Below.refl _ _) _) _))) HL.out ?_)
  intro v1 w1 hR1 hB1 hg hat
  obtain ⟨A1, n1, rfl⟩ := Kd.R_slice hR1
  have hv1 := own_cell (w0 := w0) (blk_below HV.out (below_alloc (below_alloc (Below.refl _ _) _) _)) (Kd.R_below HR.out (below_alloc (below_alloc (Below.refl _ _) _) _)) hg
  have hS := Aside0.mk (own_stored H0.out hv1 hR1 hB1)
  have hc1 : w1.cell? ⟨B, 0, none⟩ = some v := (blk_cell hv1 0).trans rfl
  have hf1 := blk_frozen hv1 0
  clear hv1 hR1 hB1 hg hat
  go_wp2
  go_end0
  exact ⟨rfl, by simpa using hS.out⟩


set_option maxRecDepth 100000 in
set_option maxHeartbeats 2000000 in
theorem raw1b (w0 : World) (B : Nat) (out : List S38) (x y : S38) (w : World) (h0 : w0.heap.size ≤ B) (h : OutIs w0 B out w) (hl : (out.length + 1) * 32 ≤ 140737488355328) (h1 : ¬ y.f0.toList = []) (h2 : y.f1.toList = []) :
    Calls Try.prog 104 #[.agg #[.string x.f0, .string x.f1], .agg #[.string y.f0, .string y.f1], .pointer (some ⟨B, 0, none⟩)] w fun e w' => e = .returned (.tuple #[]) ∧ OutIs w0 B (out) w' := by
  obtain ⟨v, hv, hR, hb⟩ := h
  have hu38 := Try.underlying38
  have c1 : (y.f0.toList == ([] : List UInt8)) = false := beq_eq_false_iff_ne.mpr h1
  clear h1
  have c2 : (!y.f1.toList.isEmpty) = false := by rw [h2]; rfl
  clear h2
  have HR := Aside0.mk hR
  have HB := Aside0.mk hb
  have HV := Aside0.mk hv
  have hc0 : w.cell? ⟨B, 0, none⟩ = some v := (blk_cell hv 0).trans rfl
  have hB : B < w.heap.size := blk_lt hv
  have HL := Aside0.mk hl
  have H0 := Aside0.mk h0
  clear hR hb hv hl h0
  go_enter Try.func104, Try.ntmps104
  go_wp2
  go_end0
  exact ⟨rfl, v, blk_below HV.out (below_alloc (below_alloc (Below.refl _ _) _) _), Kd.R_below HR.out (below_alloc (below_alloc (Below.refl _ _) _) _), below_step HB.out (below_alloc (below_alloc (Below.refl _ _) _) _)⟩


set_option maxRecDepth 100000 in
set_option maxHeartbeats 2000000 in
theorem raw1c (w0 : World) (B : Nat) (out : List S38) (x y : S38) (w : World) (h0 : w0.heap.size ≤ B) (h : OutIs w0 B out w) (hl : (out.length + 1) * 32 ≤ 140737488355328) (h1 : ¬ y.f0.toList = []) (h2 : ¬ y.f1.toList = []) :
    Calls Try.prog 104 #[.agg #[.string x.f0, .string x.f1], .agg #[.string y.f0, .string y.f1], .pointer (some ⟨B, 0, none⟩)] w fun e w' => e = .returned (.tuple #[]) ∧ OutIs w0 B (out ++ [y]) w' := by
  obtain ⟨v, hv, hR, hb⟩ := h
  have hu38 := Try.underlying38
  have c1 : (y.f0.toList == ([] : List UInt8)) = false := beq_eq_false_iff_ne.mpr h1
  clear h1
  have c2 : (!y.f1.toList.isEmpty) = true := by simpa using h2
  clear h2
  have HR := Aside0.mk hR
  have HB := Aside0.mk hb
  have HV := Aside0.mk hv
  have hc0 : w.cell? ⟨B, 0, none⟩ = some v := (blk_cell hv 0).trans rfl
  have hB : B < w.heap.size := blk_lt hv
  have HL := Aside0.mk hl
  have H0 := Aside0.mk h0
  clear hR hb hv hl h0
  go_enter Try.func104, Try.ntmps104
  go_wp2_with (at_builtin; refine Kd.R_append k38 (w0 := w0) w0.heap.size rfl (.tmp 17) (.tmp 19) 32 38 (.agg #[.string ⟨#[]⟩, .string ⟨#[]⟩]) 32 rfl Try.underlying32 info38 rfl (by decide) (by decide) v out y _ (fun _ => True) (fun _ => False) rfl (by simp [Act.eval]) (k38_mkM _ _ _ _) (fun _ h => h.elim) (fun _ _ => trivial) (Kd.R_below HR.out (below_alloc (below_alloc (Below.refl _ _) _) _)) (below_step HB.out (below_alloc (below_alloc (Below.refl _ _) _) _)) (below_size (below_step HB.out (below_alloc (below_alloc (Below.refl _ _) _) _))) HL.out ?_)
  intro v1 w1 hR1 hB1 hg hat
  obtain ⟨A1, n1, rfl⟩ := Kd.R_slice hR1
  have hv1 := own_cell (w0 := w0) (blk_below HV.out (below_alloc (below_alloc (Below.refl _ _) _) _)) (Kd.R_below HR.out (below_alloc (below_alloc (Below.refl _ _) _) _)) hg
  have hS := Aside0.mk (own_stored H0.out hv1 hR1 hB1)
  have hc1 : w1.cell? ⟨B, 0, none⟩ = some v := (blk_cell hv1 0).trans rfl
  have hf1 := blk_frozen hv1 0
  clear hv1 hR1 hB1 hg hat
  go_wp2
  go_end0
  exact ⟨rfl, by simpa using hS.out⟩


set_option maxRecDepth 100000 in
set_option maxHeartbeats 2000000 in
theorem change1a (w0 : World) (B : Nat) (out : List S38) (x y : S38) (w : World) (h0 : w0.heap.size ≤ B) (h : OutIs w0 B out w) (hl : (out.length + 1) * 32 ≤ 140737488355328) (h1 : y.f0.toList = []) :
    Calls Try.prog 105 #[.agg #[.string x.f0, .string x.f1], .agg #[.string y.f0, .string y.f1], .pointer (some ⟨B, 0, none⟩)] w fun e w' => e = .returned (.tuple #[]) ∧ OutIs w0 B (out ++ [⟨x.f0, ⟨#[]⟩⟩]) w' := by
  obtain ⟨v, hv, hR, hb⟩ := h
  have hu38 := Try.underlying38
  have c1 : (y.f0.toList == ([] : List UInt8)) = true := beq_iff_eq.mpr h1
  clear h1
  have HR := Aside0.mk hR
  have HB := Aside0.mk hb
  have HV := Aside0.mk hv
  have hc0 : w.cell? ⟨B, 0, none⟩ = some v := (blk_cell hv 0).trans rfl
  have hB : B < w.heap.size := blk_lt hv
  have HL := Aside0.mk hl
  have H0 := Aside0.mk h0
  clear hR hb hv hl h0
  go_enter Try.func105, Try.ntmps105
  go_wp2_with (at_builtin; refine Kd.R_append k38 (w0 := w0) w0.heap.size rfl (.tmp 9) (.tmp 13) 32 38 (.agg #[.string ⟨#[]⟩, .string ⟨#[]⟩]) 32 rfl Try.underlying32 info38 rfl (by decide) (by decide) v out ⟨x.f0, ⟨#[]⟩⟩ _ (fun _ => True) (fun _ => False) rfl (by simp [Act.eval]) (k38_mkM _ _ _ _) (fun _ h => h.elim) (fun _ _ => trivial) (Kd.R_below HR.out (below_alloc (below_alloc (Below.refl _ _) _) _)) (below_step HB.out (below_alloc (below_alloc (Below.refl _ _) _) _)) (below_size (below_step HB.out (below_alloc (below_alloc (Below.refl _ _) _) _))) HL.out ?_)
  intro v1 w1 hR1 hB1 hg hat
  obtain ⟨A1, n1, rfl⟩ := Kd.R_slice hR1
  have hv1 := own_cell (w0 := w0) (blk_below HV.out (below_alloc (below_alloc (Below.refl _ _) _) _)) (Kd.R_below HR.out (below_alloc (below_alloc (Below.refl _ _) _) _)) hg
  have hS := Aside0.mk (own_stored H0.out hv1 hR1 hB1)
  have hc1 : w1.cell? ⟨B, 0, none⟩ = some v := (blk_cell hv1 0).trans rfl
  have hf1 := blk_frozen hv1 0
  clear hv1 hR1 hB1 hg hat
  go_wp2
  go_end0
  exact ⟨rfl, by simpa using hS.out⟩


set_option maxRecDepth 100000 in
set_option maxHeartbeats 2000000 in
theorem change1b (w0 : World) (B : Nat) (out : List S38) (x y : S38) (w : World) (h0 : w0.heap.size ≤ B) (h : OutIs w0 B out w) (hl : (out.length + 1) * 32 ≤ 140737488355328) (h1 : ¬ y.f0.toList = []) (h2 : x.f0.toList = y.f0.toList ∧ x.f1.toList = y.f1.toList) :
    Calls Try.prog 105 #[.agg #[.string x.f0, .string x.f1], .agg #[.string y.f0, .string y.f1], .pointer (some ⟨B, 0, none⟩)] w fun e w' => e = .returned (.tuple #[]) ∧ OutIs w0 B (out) w' := by
  obtain ⟨v, hv, hR, hb⟩ := h
  have hu38 := Try.underlying38
  have c1 : (y.f0.toList == ([] : List UInt8)) = false := beq_eq_false_iff_ne.mpr h1
  clear h1
  have c2 : (!x.f0.toList == y.f0.toList || !x.f1.toList == y.f1.toList) = false := by rw [h2.1, h2.2]; simp
  clear h2
  have HR := Aside0.mk hR
  have HB := Aside0.mk hb
  have HV := Aside0.mk hv
  have hc0 : w.cell? ⟨B, 0, none⟩ = some v := (blk_cell hv 0).trans rfl
  have hB : B < w.heap.size := blk_lt hv
  have HL := Aside0.mk hl
  have H0 := Aside0.mk h0
  clear hR hb hv hl h0
  go_enter Try.func105, Try.ntmps105
  go_wp2
  go_end0
  exact ⟨rfl, v, blk_below HV.out (below_alloc (below_alloc (Below.refl _ _) _) _), Kd.R_below HR.out (below_alloc (below_alloc (Below.refl _ _) _) _), below_step HB.out (below_alloc (below_alloc (Below.refl _ _) _) _)⟩


set_option maxRecDepth 100000 in
set_option maxHeartbeats 2000000 in
theorem change1c (w0 : World) (B : Nat) (out : List S38) (x y : S38) (w : World) (h0 : w0.heap.size ≤ B) (h : OutIs w0 B out w) (hl : (out.length + 1) * 32 ≤ 140737488355328) (h1 : ¬ y.f0.toList = []) (h2 : ¬ (x.f0.toList = y.f0.toList ∧ x.f1.toList = y.f1.toList)) :
    Calls Try.prog 105 #[.agg #[.string x.f0, .string x.f1], .agg #[.string y.f0, .string y.f1], .pointer (some ⟨B, 0, none⟩)] w fun e w' => e = .returned (.tuple #[]) ∧ OutIs w0 B (out ++ [y]) w' := by
  obtain ⟨v, hv, hR, hb⟩ := h
  have hu38 := Try.underlying38
  have c1 : (y.f0.toList == ([] : List UInt8)) = false := beq_eq_false_iff_ne.mpr h1
  clear h1
  have c2 : (!x.f0.toList == y.f0.toList || !x.f1.toList == y.f1.toList) = true := by by_cases e1 : x.f0.toList = y.f0.toList <;> by_cases e2 : x.f1.toList = y.f1.toList <;> simp [e1, e2] ; exact absurd ⟨e1, e2⟩ h2
  clear h2
  have HR := Aside0.mk hR
  have HB := Aside0.mk hb
  have HV := Aside0.mk hv
  have hc0 : w.cell? ⟨B, 0, none⟩ = some v := (blk_cell hv 0).trans rfl
  have hB : B < w.heap.size := blk_lt hv
  have HL := Aside0.mk hl
  have H0 := Aside0.mk h0
  clear hR hb hv hl h0
  go_enter Try.func105, Try.ntmps105
  go_wp2_with (at_builtin; refine Kd.R_append k38 (w0 := w0) w0.heap.size rfl (.tmp 19) (.tmp 21) 32 38 (.agg #[.string ⟨#[]⟩, .string ⟨#[]⟩]) 32 rfl Try.underlying32 info38 rfl (by decide) (by decide) v out y _ (fun _ => True) (fun _ => False) rfl (by simp [Act.eval]) (k38_mkM _ _ _ _) (fun _ h => h.elim) (fun _ _ => trivial) (Kd.R_below HR.out (below_alloc (below_alloc (Below.refl _ _) _) _)) (below_step HB.out (below_alloc (below_alloc (Below.refl _ _) _) _)) (below_size (below_step HB.out (below_alloc (below_alloc (Below.refl _ _) _) _))) HL.out ?_)
  intro v1 w1 hR1 hB1 hg hat
  obtain ⟨A1, n1, rfl⟩ := Kd.R_slice hR1
  have hv1 := own_cell (w0 := w0) (blk_below HV.out (below_alloc (below_alloc (Below.refl _ _) _) _)) (Kd.R_below HR.out (below_alloc (below_alloc (Below.refl _ _) _) _)) hg
  have hS := Aside0.mk (own_stored H0.out hv1 hR1 hB1)
  have hc1 : w1.cell? ⟨B, 0, none⟩ = some v := (blk_cell hv1 0).trans rfl
  have hf1 := blk_frozen hv1 0
  clear hv1 hR1 hB1 hg hat
  go_wp2
  go_end0
  exact ⟨rfl, by simpa using hS.out⟩


set_option maxRecDepth 100000 in
set_option maxHeartbeats 2000000 in
theorem without1a (w0 : World) (B : Nat) (out : List S38) (x y : S38) (w : World) (h0 : w0.heap.size ≤ B) (h : OutIs w0 B out w) (hl : (out.length + 1) * 32 ≤ 140737488355328) (h1 : y.f0.toList = []) :
    Calls Try.prog 106 #[.agg #[.string x.f0, .string x.f1], .agg #[.string y.f0, .string y.f1], .pointer (some ⟨B, 0, none⟩)] w fun e w' => e = .returned (.tuple #[]) ∧ OutIs w0 B (out ++ [x]) w' := by
  obtain ⟨v, hv, hR, hb⟩ := h
  have hu38 := Try.underlying38
  have c1 : (y.f0.toList == ([] : List UInt8)) = true := beq_iff_eq.mpr h1
  clear h1
  have HR := Aside0.mk hR
  have HB := Aside0.mk hb
  have HV := Aside0.mk hv
  have hc0 : w.cell? ⟨B, 0, none⟩ = some v := (blk_cell hv 0).trans rfl
  have hB : B < w.heap.size := blk_lt hv
  have HL := Aside0.mk hl
  have H0 := Aside0.mk h0
  clear hR hb hv hl h0
  go_enter Try.func106, Try.ntmps106
  go_wp2_with (at_builtin; refine Kd.R_append k38 (w0 := w0) w0.heap.size rfl (.tmp 8) (.tmp 10) 32 38 (.agg #[.string ⟨#[]⟩, .string ⟨#[]⟩]) 32 rfl Try.underlying32 info38 rfl (by decide) (by decide) v out x _ (fun _ => True) (fun _ => False) rfl (by simp [Act.eval]) (k38_mkM _ _ _ _) (fun _ h => h.elim) (fun _ _ => trivial) (Kd.R_below HR.out (below_alloc (below_alloc (Below.refl _ _) _) _)) (below_step HB.out (below_alloc (below_alloc (Below.refl _ _) _) _)) (below_size (below_step HB.out (below_alloc (below_alloc (Below.refl _ _) _) _))) HL.out ?_)
  intro v1 w1 hR1 hB1 hg hat
  obtain ⟨A1, n1, rfl⟩ := Kd.R_slice hR1
  have hv1 := own_cell (w0 := w0) (blk_below HV.out (below_alloc (below_alloc (Below.refl _ _) _) _)) (Kd.R_below HR.out (below_alloc (below_alloc (Below.refl _ _) _) _)) hg
  have hS := Aside0.mk (own_stored H0.out hv1 hR1 hB1)
  have hc1 : w1.cell? ⟨B, 0, none⟩ = some v := (blk_cell hv1 0).trans rfl
  have hf1 := blk_frozen hv1 0
  clear hv1 hR1 hB1 hg hat
  go_wp2
  go_end0
  exact ⟨rfl, by simpa using hS.out⟩


set_option maxRecDepth 100000 in
set_option maxHeartbeats 2000000 in
theorem without1b (w0 : World) (B : Nat) (out : List S38) (x y : S38) (w : World) (h0 : w0.heap.size ≤ B) (h : OutIs w0 B out w) (hl : (out.length + 1) * 32 ≤ 140737488355328) (h1 : ¬ y.f0.toList = []) :
    Calls Try.prog 106 #[.agg #[.string x.f0, .string x.f1], .agg #[.string y.f0, .string y.f1], .pointer (some ⟨B, 0, none⟩)] w fun e w' => e = .returned (.tuple #[]) ∧ OutIs w0 B (out) w' := by
  obtain ⟨v, hv, hR, hb⟩ := h
  have hu38 := Try.underlying38
  have c1 : (y.f0.toList == ([] : List UInt8)) = false := beq_eq_false_iff_ne.mpr h1
  clear h1
  have HR := Aside0.mk hR
  have HB := Aside0.mk hb
  have HV := Aside0.mk hv
  have hc0 : w.cell? ⟨B, 0, none⟩ = some v := (blk_cell hv 0).trans rfl
  have hB : B < w.heap.size := blk_lt hv
  have HL := Aside0.mk hl
  have H0 := Aside0.mk h0
  clear hR hb hv hl h0
  go_enter Try.func106, Try.ntmps106
  go_wp2
  go_end0
  exact ⟨rfl, v, blk_below HV.out (below_alloc (below_alloc (Below.refl _ _) _) _), Kd.R_below HR.out (below_alloc (below_alloc (Below.refl _ _) _) _), below_step HB.out (below_alloc (below_alloc (Below.refl _ _) _) _)⟩


set_option maxRecDepth 100000 in
set_option maxHeartbeats 2000000 in
theorem both1a (w0 : World) (B : Nat) (out : List S38) (x y : S38) (w : World) (h0 : w0.heap.size ≤ B) (h : OutIs w0 B out w) (hl : (out.length + 1) * 32 ≤ 140737488355328) (h1 : y.f0.toList = []) :
    Calls Try.prog 107 #[.agg #[.string x.f0, .string x.f1], .agg #[.string y.f0, .string y.f1], .pointer (some ⟨B, 0, none⟩)] w fun e w' => e = .returned (.tuple #[]) ∧ OutIs w0 B (out ++ [x]) w' := by
  obtain ⟨v, hv, hR, hb⟩ := h
  have hu38 := Try.underlying38
  have c1 : (y.f0.toList == ([] : List UInt8)) = true := beq_iff_eq.mpr h1
  clear h1
  have HR := Aside0.mk hR
  have HB := Aside0.mk hb
  have HV := Aside0.mk hv
  have hc0 : w.cell? ⟨B, 0, none⟩ = some v := (blk_cell hv 0).trans rfl
  have hB : B < w.heap.size := blk_lt hv
  have HL := Aside0.mk hl
  have H0 := Aside0.mk h0
  clear hR hb hv hl h0
  go_enter Try.func107, Try.ntmps107
  go_wp2_with (at_builtin; refine Kd.R_append k38 (w0 := w0) w0.heap.size rfl (.tmp 9) (.tmp 11) 32 38 (.agg #[.string ⟨#[]⟩, .string ⟨#[]⟩]) 32 rfl Try.underlying32 info38 rfl (by decide) (by decide) v out x _ (fun _ => True) (fun _ => False) rfl (by simp [Act.eval]) (k38_mkM _ _ _ _) (fun _ h => h.elim) (fun _ _ => trivial) (Kd.R_below HR.out (below_alloc (below_alloc (Below.refl _ _) _) _)) (below_step HB.out (below_alloc (below_alloc (Below.refl _ _) _) _)) (below_size (below_step HB.out (below_alloc (below_alloc (Below.refl _ _) _) _))) HL.out ?_)
  intro v1 w1 hR1 hB1 hg hat
  obtain ⟨A1, n1, rfl⟩ := Kd.R_slice hR1
  have hv1 := own_cell (w0 := w0) (blk_below HV.out (below_alloc (below_alloc (Below.refl _ _) _) _)) (Kd.R_below HR.out (below_alloc (below_alloc (Below.refl _ _) _) _)) hg
  have hS := Aside0.mk (own_stored H0.out hv1 hR1 hB1)
  have hc1 : w1.cell? ⟨B, 0, none⟩ = some v := (blk_cell hv1 0).trans rfl
  have hf1 := blk_frozen hv1 0
  clear hv1 hR1 hB1 hg hat
  go_wp2
  go_end0
  exact ⟨rfl, by simpa using hS.out⟩


set_option maxRecDepth 100000 in
set_option maxHeartbeats 2000000 in
theorem both1b (w0 : World) (B : Nat) (out : List S38) (x y : S38) (w : World) (h0 : w0.heap.size ≤ B) (h : OutIs w0 B out w) (hl : (out.length + 1) * 32 ≤ 140737488355328) (h1 : ¬ y.f0.toList = []) :
    Calls Try.prog 107 #[.agg #[.string x.f0, .string x.f1], .agg #[.string y.f0, .string y.f1], .pointer (some ⟨B, 0, none⟩)] w fun e w' => e = .returned (.tuple #[]) ∧ OutIs w0 B (out ++ [y]) w' := by
  obtain ⟨v, hv, hR, hb⟩ := h
  have hu38 := Try.underlying38
  have c1 : (y.f0.toList == ([] : List UInt8)) = false := beq_eq_false_iff_ne.mpr h1
  clear h1
  have HR := Aside0.mk hR
  have HB := Aside0.mk hb
  have HV := Aside0.mk hv
  have hc0 : w.cell? ⟨B, 0, none⟩ = some v := (blk_cell hv 0).trans rfl
  have hB : B < w.heap.size := blk_lt hv
  have HL := Aside0.mk hl
  have H0 := Aside0.mk h0
  clear hR hb hv hl h0
  go_enter Try.func107, Try.ntmps107
  go_wp2_with (at_builtin; refine Kd.R_append k38 (w0 := w0) w0.heap.size rfl (.tmp 9) (.tmp 11) 32 38 (.agg #[.string ⟨#[]⟩, .string ⟨#[]⟩]) 32 rfl Try.underlying32 info38 rfl (by decide) (by decide) v out y _ (fun _ => True) (fun _ => False) rfl (by simp [Act.eval]) (k38_mkM _ _ _ _) (fun _ h => h.elim) (fun _ _ => trivial) (Kd.R_below HR.out (below_alloc (below_alloc (Below.refl _ _) _) _)) (below_step HB.out (below_alloc (below_alloc (Below.refl _ _) _) _)) (below_size (below_step HB.out (below_alloc (below_alloc (Below.refl _ _) _) _))) HL.out ?_)
  intro v1 w1 hR1 hB1 hg hat
  obtain ⟨A1, n1, rfl⟩ := Kd.R_slice hR1
  have hv1 := own_cell (w0 := w0) (blk_below HV.out (below_alloc (below_alloc (Below.refl _ _) _) _)) (Kd.R_below HR.out (below_alloc (below_alloc (Below.refl _ _) _) _)) hg
  have hS := Aside0.mk (own_stored H0.out hv1 hR1 hB1)
  have hc1 : w1.cell? ⟨B, 0, none⟩ = some v := (blk_cell hv1 0).trans rfl
  have hf1 := blk_frozen hv1 0
  clear hv1 hR1 hB1 hg hat
  go_wp2
  go_end0
  exact ⟨rfl, by simpa using hS.out⟩

end Go.Proofs.Ytdgemabmmomebaa.PAttr

/- Parts of the proof of One: nothing is claimed here by itself. -/
import Derived.Test.YtlcodfjlbhjkbaaKOne5
set_option linter.unusedVariables false
set_option linter.unusedSimpArgs false
section
namespace Go.Proofs.Ytlcodfjlbhjkbaa.PDelta
open Go.RowKit Go.Proofs.YtlcodfjlbhjkbaaW.PrintWords Go.Proofs.YtlcodfjlbhjkbaaW.PrintLast Go.Proofs.YtlcodfjlbhjkbaaW.PrintMore
theorem table_l1 (a b : List S26) (ha : a.length ≤ 1048576) (hb : b.length ≤ 1048576) (hs : ∀ x ∈ a, x.f2.length ≤ 1099511627776) (i : Nat) (H : ∀ t, TR a b t i → ∃ r, Ev (fun k => diff_table.l0 k a b t ((i : Int) - 1)) r ∧ TR a b r 0) :
  ∀ (m : Nat) (t : List (List Int)), m ≤ b.length + 1 → TI a b t i m → ∃ r, Ev (fun k => diff_table.l1 k a b t (i : Int) ((m : Int) - 1)) r ∧ TR a b r 0 := by
 intro m
 induction m with
 | zero =>
  intro t _ h
  obtain ⟨r, er, hr⟩ := H t ⟨h.above.len, fun i' h1 h2 => by
   by_cases e : i' = i
   ·subst e; exact ⟨h.wide, fun j hj => h.cells j (Nat.zero_le _) hj⟩
   ·exact h.above.row i' (by omega) h2⟩
  refine ⟨r, Ev.step (fun k => ?_) er, hr⟩
  have wi : wrap64 ((i : Int) - 1) = (i : Int) - 1 := w64 (by omega) (by have := h.le; omega)
  simp only [diff_table.l1]
  rw [if_neg (by omega), wi]
 | succ j ih =>
  intro t hj h
  have hjb : j ≤ b.length := by omega
  have hia := h.le
  have hlen := h.above.len
  have hwide := h.wide
  have e0 : ((j + 1 : Nat) : Int) - 1 = (j : Int) := by omega
  have wj : wrap64 ((j : Int) - 1) = (j : Int) - 1 := w64 (by omega) (by omega)
  rw [e0]
  by_cases ci : i = a.length
  ·have hv : wrap64 ((b.length : Int) - (j : Int)) = (tc (a.drop i) (b.drop j) : Int) := by
    rw [List.drop_eq_nil_of_le (by omega), tc_nil, List.length_drop, w64 (by omega) (by omega)]; omega
   obtain ⟨r, er, hr⟩ := ih _ (by omega) (h.put hjb hv)
   refine ⟨r, Ev.step (fun k => ?_) er, hr⟩
   simp only [diff_table.l1]
   rw [if_pos (by omega), if_pos (by omega), if_pos (by omega), if_pos (by omega), if_pos (by omega), if_pos (by omega), wj]
   rfl
  ·by_cases cj : j = b.length
   ·have hv : wrap64 ((a.length : Int) - (i : Int)) = (tc (a.drop i) (b.drop j) : Int) := by
     rw [show b.drop j = [] from List.drop_eq_nil_of_le (by omega), tc_nil', List.length_drop, w64 (by omega) (by omega)]; omega
    obtain ⟨r, er, hr⟩ := ih _ (by omega) (h.put hjb hv)
    refine ⟨r, Ev.step (fun k => ?_) er, hr⟩
    simp only [diff_table.l1]
    rw [if_pos (by omega), if_neg (by omega), if_pos (by omega), if_pos (by omega), if_pos (by omega), if_pos (by omega), if_pos (by omega), wj]
    rfl
   ·have wi1 : wrap64 ((i : Int) + 1) = ((i + 1 : Nat) : Int) := by rw [w64 (by omega) (by omega)]; omega
    have wj1 : wrap64 ((j : Int) + 1) = ((j + 1 : Nat) : Int) := by rw [w64 (by omega) (by omega)]; omega
    obtain ⟨w1, r1⟩ := h.above.row (i + 1) (Nat.le_refl _) (by omega)
    have c1 := r1 j hjb
    have c2 := h.cells (j + 1) (Nat.le_refl _) (by omega)
    have c3 := r1 (j + 1) (by omega)
    unfold Cell at c1 c2 c3
    have da := drop_T26 a i (by omega)
    have db := drop_T26 b j (by omega)
    obtain ⟨x, hx⟩ : ∃ x, x = rd_T26 a (i : Int) := ⟨_, rfl⟩
    obtain ⟨y, hy⟩ : ∃ y, y = rd_T26 b (j : Int) := ⟨_, rfl⟩
    rw [← hx] at da
    rw [← hy] at db
    have b1 := tc_le _ (a.drop (i + 1)) (b.drop j) (Nat.le_refl _)
    have b2 := tc_le _ (a.drop i) (b.drop (j + 1)) (Nat.le_refl _)
    have b3 := tc_le _ (a.drop (i + 1)) (b.drop (j + 1)) (Nat.le_refl _)
    simp only [List.length_drop] at b1 b2 b3
    have hv1 : wrap64 (1 + mn (rd (rd_L10 t ((i + 1 : Nat) : Int)) (j : Int)) (rd (rd_L10 t (i : Int)) ((j + 1 : Nat) : Int))) = ((1 + min (tc (a.drop (i + 1)) (b.drop j)) (tc (a.drop i) (b.drop (j + 1))) : Nat) : Int) := by
     rw [c1, c2, mn_nat, w64 (by omega) (by omega)]; omega
    have hm := tc_cons x (a.drop (i + 1)) y (b.drop (j + 1))
    rw [← da, ← db] at hm
    obtain ⟨v1, hv1'⟩ : ∃ v : Int, v = wrap64 (1 + mn (rd (rd_L10 t ((i + 1 : Nat) : Int)) (j : Int)) (rd (rd_L10 t (i : Int)) ((j + 1 : Nat) : Int))) := ⟨_, rfl⟩
    rw [← hv1'] at hv1
    have hit : i < t.length := by omega
    by_cases ck : Alk x y
    ·rw [if_pos ck] at hm
     have h1 := h.any hjb v1
     have e1 : rd_L10 (t.set i ((rd_L10 t (i : Int)).set j v1)) (i : Int) = (rd_L10 t (i : Int)).set j v1 := by rw [rdL_set _ _ _ _ hit, if_pos rfl]
     have e2 : rd_L10 (t.set i ((rd_L10 t (i : Int)).set j v1)) ((i + 1 : Nat) : Int) = rd_L10 t ((i + 1 : Nat) : Int) := by rw [rdL_set _ _ _ _ hit, if_neg (by omega)]
     have e3 : rd ((rd_L10 t (i : Int)).set j v1) (j : Int) = v1 := by rw [rd_set _ _ _ _ (by omega), if_pos rfl]
     have hp1 : prc x y ≤ 1 := by unfold prc; split <;> omega
     have hv2 : mn v1 (wrap64 ((tc (a.drop (i + 1)) (b.drop (j + 1)) : Int) + (prc x y : Int))) = (tc (a.drop i) (b.drop j) : Int) := by
      rw [w64 (by omega) (by omega), hv1, show ((tc (a.drop (i + 1)) (b.drop (j + 1)) : Int) + (prc x y : Int)) = ((tc (a.drop (i + 1)) (b.drop (j + 1)) + prc x y : Nat) : Int) by omega, mn_nat, hm]
     obtain ⟨r, er, hr⟩ := ih _ (by omega) (h1.put hjb hv2)
     have hxm : x ∈ a := List.mem_of_mem_drop (i := i) (by rw [da]; exact List.mem_cons_self)
     let f : Nat → Int → Option (List (List Int)) := fun k p => diff_table.l1 k a b ((t.set i ((rd_L10 t (i : Int)).set j v1)).set i ((rd_L10 (t.set i ((rd_L10 t (i : Int)).set j v1)) (i : Int)).set j (mn v1 (wrap64 ((tc (a.drop (i + 1)) (b.drop (j + 1)) : Int) + p))))) (i : Int) ((j : Int) - 1)
     refine ⟨r, Ev.step (fun k => ?_) (Ev.bind (f := f) (price_ev x y (hs x hxm)) er), hr⟩
     simp only [diff_table.l1]
     rw [if_pos (by omega), if_neg (by omega), if_neg (by omega), if_pos (by omega), if_pos (by omega), wi1, if_pos (by omega), if_pos (by omega), if_pos (by omega), if_pos (by omega), wj1, if_pos (by omega), if_pos (by omega), if_pos (by omega), Option.bind_some, if_pos (by omega), if_pos (by omega), ← hx, ← hy, alike_is, decide_eq_true ck, Option.bind_some, if_pos rfl, Int.toNat_natCast, Int.toNat_natCast, ← hv1', e1, e2, if_pos (by rw [List.length_set]; omega), if_pos (by omega), e3, c3, wj]
     simp only [f, e1]
    ·rw [if_neg ck] at hm
     obtain ⟨r, er, hr⟩ := ih _ (by omega) (h.put hjb (v := v1) (by rw [hv1, hm]))
     refine ⟨r, Ev.step (fun k => ?_) er, hr⟩
     simp only [diff_table.l1]
     rw [if_pos (by omega), if_neg (by omega), if_neg (by omega), if_pos (by omega), if_pos (by omega), wi1, if_pos (by omega), if_pos (by omega), if_pos (by omega), if_pos (by omega), wj1, if_pos (by omega), if_pos (by omega), if_pos (by omega), Option.bind_some, if_pos (by omega), if_pos (by omega), ← hx, ← hy, alike_is, decide_eq_false ck, Option.bind_some, if_neg (by decide), Int.toNat_natCast, Int.toNat_natCast, ← hv1', wj]
theorem table_l0 (a b : List S26) (ha : a.length ≤ 1048576) (hb : b.length ≤ 1048576) (hs : ∀ x ∈ a, x.f2.length ≤ 1099511627776) : ∀ (n : Nat) (t : List (List Int)), n ≤ a.length + 1 → TR a b t n → ∃ r, Ev (fun k => diff_table.l0 k a b t ((n : Int) - 1)) r ∧ TR a b r 0 := by
 intro n
 induction n with
 | zero =>
  intro t _ h
  refine ⟨t, Ev.step (f := fun _ => some t) (fun k => ?_) (Ev.now _), h⟩
  simp only [diff_table.l0]
  rw [if_neg (by omega)]
 | succ i ih =>
  intro t hi h
  have hlen := h.len
  have e0 : ((i + 1 : Nat) : Int) - 1 = (i : Int) := by omega
  have wb : wrap64 ((b.length : Int) + 1) = ((b.length + 1 : Nat) : Int) := by rw [w64 (by omega) (by omega)]; omega
  have hit : i < t.length := by omega
  rw [e0]
  have hTI : TI a b (t.set i (List.replicate (b.length + 1) 0)) i (b.length + 1) := by
   refine ⟨⟨by rw [List.length_set]; exact hlen, fun i' h1 h2 => ?_⟩, by omega, ?_, fun j h1 h2 => by omega⟩
   ·rw [rdL_set _ _ _ _ hit, if_neg (by omega)]; exact h.row i' h1 h2
   ·rw [rdL_set _ _ _ _ hit, if_pos rfl, List.length_replicate]
  obtain ⟨r, er, hr⟩ := table_l1 a b ha hb hs i (fun t' h' => ih t' (by omega) h') (b.length + 1) _ (Nat.le_refl _) hTI
  rw [show ((b.length + 1 : Nat) : Int) - 1 = (b.length : Int) by omega] at er
  refine ⟨r, Ev.step (fun k => ?_) er, hr⟩
  simp only [diff_table.l0]
  rw [if_pos (by omega), wb, if_pos (by omega), if_pos (by omega), if_pos (by omega), if_pos (by omega), Int.toNat_natCast, Int.toNat_natCast]
theorem table_ev (a b : List S26) (ha : a.length ≤ 1048576) (hb : b.length ≤ 1048576) (hs : ∀ x ∈ a, x.f2.length ≤ 1099511627776) : ∃ r, Ev (fun k => diff_table.f k a b) r ∧ TR a b r 0 := by
 have wa : wrap64 ((a.length : Int) + 1) = ((a.length + 1 : Nat) : Int) := by rw [w64 (by omega) (by omega)]; omega
 obtain ⟨r, er, hr⟩ := table_l0 a b ha hb hs (a.length + 1) (List.replicate (a.length + 1) []) (Nat.le_refl _) ⟨by rw [List.length_replicate], fun i h1 h2 => by omega⟩
 rw [show ((a.length + 1 : Nat) : Int) - 1 = (a.length : Int) by omega] at er
 refine ⟨r, Ev.congr (fun k => ?_) er, hr⟩
 unfold diff_table.f
 rw [wa, if_pos (by omega), if_pos (by omega), Int.toNat_natCast]
def cellT (t : List (List Int)) (i j : Int) : Option Int := if 0 ≤ i ∧ i < (t.length : Int) ∧ 0 ≤ j ∧ j < ((rd_L10 t i).length : Int) then some (rd (rd_L10 t i) j) else none
def rawL (k : Nat) (a b : List S26) (t : List (List Int)) : Nat → Nat → Nat → List S95 → Option (List S95)
 | 0, _, _, _ => none
 | m + 1, i, j, out =>
  if i < a.length ∨ j < b.length then
   (if i < a.length ∧ j < b.length ∧ Alk (rd_T26 a (i : Int)) (rd_T26 b (j : Int)) then
    (diff_price.f k (rd_T26 a (i : Int)).f0 (rd_T26 a (i : Int)).f1 (rd_T26 a (i : Int)).f2 (rd_T26 b (j : Int)).f0 (rd_T26 b (j : Int)).f1 (rd_T26 b (j : Int)).f2).bind fun p =>
     (cellT t (i : Int) (j : Int)).bind fun c => (cellT t (wrap64 ((i : Int) + 1)) (wrap64 ((j : Int) + 1))).bind fun d => some (decide (c = wrap64 (d + p)))
    else some false).bind fun q =>
   if q = true then (attr_Change.f (rd_T26 a (i : Int)).f2 (rd_T26 b (j : Int)).f2).bind fun c => rawL k a b t m (i + 1) (j + 1) (out ++ [⟨0, 1, c, []⟩]) else
   (if i < a.length then (if j = b.length then some true else (cellT t (i : Int) (j : Int)).bind fun c => (cellT t (wrap64 ((i : Int) + 1)) (j : Int)).bind fun d => some (decide (c = wrap64 (1 + d)))) else some false).bind fun q2 =>
   if q2 = true then rawL k a b t m (i + 1) j (out ++ [⟨2, 1, [], []⟩]) else rawL k a b t m i (j + 1) (out ++ [⟨1, 0, [], [rd_T26 b (j : Int)]⟩])
  else some out
theorem app_nil_f2 {l : List S91} (h : VA false l) : mrg rawE l [] = l := look_ext (va_raw h (va_nil true)).2 h.2 (fun n => by rw [look_raw h (va_nil true)]; rfl)
theorem change_self {l : List S91} (h : VA false l) : mrg changeE l l = [] := look_ext (va_change h h).2 (va_nil true).2 (fun n => by rw [look_change h h]; cases look l n <;> simp [Fc, look])
def stepOf : Un → S95
 | .keep t => ⟨0, 1, t, []⟩
 | .cut => ⟨2, 1, [], []⟩
 | .add x => ⟨1, 0, [], [x]⟩
theorem us_stepOf (u : Un) : us (stepOf u) = [u] := by cases u <;> rfl
theorem units_stepOf : ∀ u : List Un, units (u.map stepOf) = u
 | [] => rfl
 | x :: u => by rw [List.map_cons, units_cons, us_stepOf, units_stepOf u]; rfl
theorem cellT_ok {a b : List S26} {t : List (List Int)} (h : TR a b t 0) {i j : Nat} (hi : i ≤ a.length) (hj : j ≤ b.length) : cellT t (i : Int) (j : Int) = some (tc (a.drop i) (b.drop j) : Int) := by
 obtain ⟨w, c⟩ := h.row i (Nat.zero_le _) hi
 have := h.len
 unfold cellT
 rw [if_pos (by omega), c j hj]
theorem raw_spec {a b : List S26} {t : List (List Int)} (ht : TR a b t 0) (ha : a.length ≤ 1048576) (hb : b.length ≤ 1048576) (hpa : ∀ x ∈ a, ElemOK x ∧ x.f2.length ≤ 1048576) (hpb : ∀ x ∈ b, ElemOK x ∧ x.f2.length ≤ 1048576) :
  ∀ (m i j : Nat) (out : List S95), i ≤ a.length → j ≤ b.length → (a.length - i) + (b.length - j) < m →
   ∃ u, Ev (fun k => rawL k a b t m i j out) (out ++ u.map stepOf) ∧ Way (a.drop i) (b.drop j) u ∧ costU u = tc (a.drop i) (b.drop j) := by
 intro m
 induction m with
 | zero => intro i j out hi hj h; omega
 | succ m ih =>
  intro i j out hi hj h
  by_cases c0 : i < a.length ∨ j < b.length
  rotate_left
  ·refine ⟨[], Ev.congr (fun k => by rw [rawL, if_neg c0]) (by simpa using Ev.now out), ?_, ?_⟩
   ·rw [show a.drop i = [] from List.drop_eq_nil_of_le (by omega), show b.drop j = [] from List.drop_eq_nil_of_le (by omega)]; exact .nil
   ·rw [show a.drop i = [] from List.drop_eq_nil_of_le (by omega), tc_nil, List.length_drop]; show 0 = _; omega
  have b0 := tc_le _ (a.drop i) (b.drop j) (Nat.le_refl _)
  have b1 := tc_le _ (a.drop (i + 1)) (b.drop j) (Nat.le_refl _)
  have b3 := tc_le _ (a.drop (i + 1)) (b.drop (j + 1)) (Nat.le_refl _)
  simp only [List.length_drop] at b0 b1 b3
  have WI : Aside0 (wrap64 ((i : Int) + 1) = ((i + 1 : Nat) : Int)) := ⟨by rw [w64 (by omega) (by omega)]; omega⟩
  have WJ : Aside0 (wrap64 ((j : Int) + 1) = ((j + 1 : Nat) : Int)) := ⟨by rw [w64 (by omega) (by omega)]; omega⟩
  obtain ⟨x, hx⟩ : ∃ x, x = rd_T26 a (i : Int) := ⟨_, rfl⟩
  obtain ⟨y, hy⟩ : ∃ y, y = rd_T26 b (j : Int) := ⟨_, rfl⟩
  have hq : ∃ q : Bool, Ev (fun k => if i < a.length ∧ j < b.length ∧ Alk x y then
    (diff_price.f k x.f0 x.f1 x.f2 y.f0 y.f1 y.f2).bind fun p =>
     (cellT t (i : Int) (j : Int)).bind fun c => (cellT t (wrap64 ((i : Int) + 1)) (wrap64 ((j : Int) + 1))).bind fun d => some (decide (c = wrap64 (d + p)))
    else some false) q ∧ (q = true ↔ (i < a.length ∧ j < b.length ∧ Alk x y) ∧ tc (a.drop i) (b.drop j) = tc (a.drop (i + 1)) (b.drop (j + 1)) + prc x y) := by
   by_cases c : i < a.length ∧ j < b.length ∧ Alk x y
   ·have hp1 : prc x y ≤ 1 := by unfold prc; split <;> omega
    have hxm : x.f2.length ≤ 1099511627776 := by
     have := hpa x (by rw [hx]; have := drop_T26 a i c.1; exact List.mem_of_mem_drop (i := i) (by rw [this]; exact List.mem_cons_self))
     omega
    refine ⟨decide (tc (a.drop i) (b.drop j) = tc (a.drop (i + 1)) (b.drop (j + 1)) + prc x y), Ev.congr (fun k => by rw [if_pos c]) (Ev.bind (price_ev x y hxm) (Ev.congr (fun k => ?_) (Ev.now _))), ?_⟩
    ·rw [WI.out, WJ.out, cellT_ok ht hi hj, cellT_ok ht (by omega) (by omega), Option.bind_some, Option.bind_some, w64 (by omega) (by omega)]
     congr 1
     exact decide_eq_decide.mpr (by omega)
    ·rw [decide_eq_true_iff]; exact ⟨fun h => ⟨c, h⟩, fun h => h.2⟩
   ·exact ⟨false, Ev.congr (fun k => by rw [if_neg c]) (Ev.now _), ⟨fun h => (by cases h), fun h => absurd h.1 c⟩⟩
  have hq2 : ∃ q2 : Bool, (if i < a.length then (if j = b.length then some true else (cellT t (i : Int) (j : Int)).bind fun c => (cellT t (wrap64 ((i : Int) + 1)) (j : Int)).bind fun d => some (decide (c = wrap64 (1 + d)))) else some false) = some q2 ∧ (q2 = true ↔ i < a.length ∧ (j = b.length ∨ tc (a.drop i) (b.drop j) = 1 + tc (a.drop (i + 1)) (b.drop j))) := by
   by_cases c1 : i < a.length
   ·rw [if_pos c1]
    by_cases c2 : j = b.length
    ·exact ⟨true, by rw [if_pos c2], ⟨fun _ => ⟨c1, .inl c2⟩, fun _ => rfl⟩⟩
    ·refine ⟨decide (tc (a.drop i) (b.drop j) = 1 + tc (a.drop (i + 1)) (b.drop j)), ?_, by rw [decide_eq_true_iff]; exact ⟨fun h => ⟨c1, .inr h⟩, fun h => h.2.resolve_left c2⟩⟩
     rw [if_neg c2, WI.out, cellT_ok ht hi hj, cellT_ok ht (by omega) hj, Option.bind_some, Option.bind_some, w64 (by omega) (by omega)]
     congr 1
     exact decide_eq_decide.mpr (by omega)
   ·exact ⟨false, by rw [if_neg c1], ⟨fun h => (by cases h), fun h => absurd h.1 c1⟩⟩
  obtain ⟨q, eq, iq⟩ := hq
  obtain ⟨q2, eq2, iq2⟩ := hq2
  have unf : ∀ k, rawL k a b t (m + 1) i j out = (if i < a.length ∧ j < b.length ∧ Alk x y then
    (diff_price.f k x.f0 x.f1 x.f2 y.f0 y.f1 y.f2).bind fun p =>
     (cellT t (i : Int) (j : Int)).bind fun c => (cellT t (wrap64 ((i : Int) + 1)) (wrap64 ((j : Int) + 1))).bind fun d => some (decide (c = wrap64 (d + p)))
    else some false).bind fun q => if q = true then (attr_Change.f x.f2 y.f2).bind fun c => rawL k a b t m (i + 1) (j + 1) (out ++ [⟨0, 1, c, []⟩]) else
    if q2 = true then rawL k a b t m (i + 1) j (out ++ [⟨2, 1, [], []⟩]) else rawL k a b t m i (j + 1) (out ++ [⟨1, 0, [], [y]⟩]) := by
   intro k
   rw [rawL, if_pos c0, ← hx, ← hy, eq2]
   rfl
  by_cases g1 : q = true
  ·obtain ⟨⟨ci, cj, ck⟩, ct⟩ := iq.1 g1
   have da := drop_T26 a i ci
   have db := drop_T26 b j cj
   rw [← hx] at da
   rw [← hy] at db
   have mx := hpa x (List.mem_of_mem_drop (i := i) (by rw [da]; exact List.mem_cons_self))
   have my := hpb y (List.mem_of_mem_drop (i := j) (by rw [db]; exact List.mem_cons_self))
   obtain ⟨u, eu, wu', cu⟩ := ih (i + 1) (j + 1) (out ++ [⟨0, 1, mrg changeE x.f2 y.f2, []⟩]) (by omega) (by omega) (by omega)
   refine ⟨.keep (mrg changeE x.f2 y.f2) :: u, Ev.congr unf (Ev.bind eq (Ev.congr (fun k => ?_) (by rw [List.append_assoc] at eu; exact eu))), by rw [da, db]; exact .keep ck wu', ?_⟩
   ·rw [if_pos g1, change_f (by omega) (by omega), Option.bind_some]
   ·rw [ct, ← cu]
    unfold prc
    by_cases hs : x.f2 = y.f2
    ·rw [if_pos hs, show mrg changeE x.f2 y.f2 = [] from by rw [← hs]; exact change_self mx.1.2, costU]; omega
    ·rw [if_neg hs]
     cases hm : mrg changeE x.f2 y.f2 with
     | nil => exact absurd (by have := lead_back mx.1.2 my.1.2; rw [hm] at this; exact (app_nil_f2 mx.1.2).symm.trans this) hs
     | cons z l => rw [costU]
  ·by_cases g2 : q2 = true
   ·obtain ⟨ci, cc⟩ := iq2.1 g2
    have da := drop_T26 a i ci
    obtain ⟨u, eu, wu', cu⟩ := ih (i + 1) j (out ++ [⟨2, 1, [], []⟩]) (by omega) (by omega) (by omega)
    refine ⟨.cut :: u, Ev.congr unf (Ev.bind eq (Ev.congr (fun k => by rw [if_neg g1, if_pos g2]) (by rw [List.append_assoc] at eu; exact eu))), by rw [da]; exact .cut wu', ?_⟩
    rw [costU, cu]
    rcases cc with e | e
    ·rw [show b.drop j = [] from List.drop_eq_nil_of_le (by omega), tc_nil', tc_nil', List.length_drop, List.length_drop]; omega
    ·omega
   ·have cj : j < b.length := by
     by_cases cj : j < b.length
     ·exact cj
     ·exact absurd (iq2.2 ⟨by omega, .inl (by omega)⟩) g2
    have db := drop_T26 b j cj
    rw [← hy] at db
    obtain ⟨u, eu, wu', cu⟩ := ih i (j + 1) (out ++ [⟨1, 0, [], [y]⟩]) (by omega) (by omega) (by omega)
    refine ⟨.add y :: u, Ev.congr unf (Ev.bind eq (Ev.congr (fun k => by rw [if_neg g1, if_neg g2]) (by rw [List.append_assoc] at eu; exact eu))), by rw [db]; exact .add wu', ?_⟩
    rw [costU, cu]
    by_cases ci : i < a.length
    ·have da := drop_T26 a i ci
     rw [← hx] at da
     have hm := tc_cons x (a.drop (i + 1)) y (b.drop (j + 1))
     rw [← da, ← db] at hm
     have n2 : ¬ tc (a.drop i) (b.drop j) = 1 + tc (a.drop (i + 1)) (b.drop j) := fun e => g2 (iq2.2 ⟨ci, .inr e⟩)
     by_cases ck : Alk x y
     ·have n1 : ¬ tc (a.drop i) (b.drop j) = tc (a.drop (i + 1)) (b.drop (j + 1)) + prc x y := fun e => g1 (iq.2 ⟨⟨ci, cj, ck⟩, e⟩)
      rw [if_pos ck] at hm
      omega
     ·rw [if_neg ck] at hm
      omega
    ·rw [show a.drop i = [] from List.drop_eq_nil_of_le (by omega), tc_nil, tc_nil, List.length_drop, List.length_drop]; omega
def lastE (a : List S26) : S26 := rd_T26 a ((a.length : Int) - 1)
def Tied (a b : List S26) : Prop := 0 < a.length ∧ 0 < b.length ∧ (lastE a).f0 = 10 ∧ (lastE b).f0 = 10
instance (a b : List S26) : Decidable (Tied a b) := by unfold Tied; infer_instance
def rawC (k : Nat) (a b : List S26) (last : List S95) : Option (List S95) := (diff_table.f k a b).bind fun t => (rawL k a b t (a.length + b.length + 1) 0 0 []).bind fun out => (tidyF k (out ++ last)).bind fun r => some r.1
def rawF (k : Nat) (a b : List S26) : Option (List S95) :=
 if Tied a b then (attr_Change.f (lastE a).f2 (lastE b).f2).bind fun c => rawC k (a.take (a.length - 1)) (b.take (b.length - 1)) [⟨0, 1, c, []⟩] else rawC k a b []
theorem Way.steps {a b : List S26} {u : List Un} (h : Way a b u) : (∀ x ∈ a, ElemOK x ∧ x.f2.length ≤ 1048576) → (∀ y ∈ b, ElemOK y ∧ y.f2.length ≤ 1048576) → ∀ s ∈ u.map stepOf, StepOK s ∧ SAt 2097152 s := by
 induction h with
 | nil => intro _ _ s hs; cases hs
 | @keep x y a b u hk h ih =>
  intro ha hb s hs
  rw [List.map_cons, List.mem_cons] at hs
  rcases hs with rfl | hs
  ·have hx := ha x List.mem_cons_self
   have hy := hb y List.mem_cons_self
   have := mrg_len changeE x.f2 y.f2
   exact ⟨.inl ⟨rfl, by show (1 : Int) ≤ 1; omega, by show (1 : Int) ≤ 2147483647; omega, rfl, va_change hx.1.2 hy.1.2⟩, by show (mrg changeE x.f2 y.f2).length ≤ _; omega, fun z hz => by cases hz⟩
  ·exact ih (fun z hz => ha z (List.mem_cons_of_mem _ hz)) (fun z hz => hb z (List.mem_cons_of_mem _ hz)) s hs
 | @cut x a b u h ih =>
  intro ha hb s hs
  rw [List.map_cons, List.mem_cons] at hs
  rcases hs with rfl | hs
  ·exact ⟨.inr (.inr ⟨rfl, by show (1 : Int) ≤ 1; omega, by show (1 : Int) ≤ 2147483647; omega, rfl, rfl⟩), Nat.zero_le _, fun z hz => by cases hz⟩
  ·exact ih (fun z hz => ha z (List.mem_cons_of_mem _ hz)) hb s hs
 | @add y a b u h ih =>
  intro ha hb s hs
  rw [List.map_cons, List.mem_cons] at hs
  rcases hs with rfl | hs
  ·have hy := hb y List.mem_cons_self
   exact ⟨.inr (.inl ⟨rfl, rfl, rfl, by simp [stepOf], pok_mem.2 (fun z hz => by rw [List.mem_singleton.1 hz]; exact hy.1)⟩), Nat.zero_le _, fun z hz => by rw [List.mem_singleton.1 hz]; have := hy.2; omega⟩
  ·exact ih ha (fun z hz => hb z (List.mem_cons_of_mem _ hz)) s hs
theorem rawC_spec (a b : List S26) (ha : a.length ≤ 1048576) (hb : b.length ≤ 1048576) (hpa : ∀ x ∈ a, ElemOK x ∧ x.f2.length ≤ 1048576) (hpb : ∀ x ∈ b, ElemOK x ∧ x.f2.length ≤ 1048576) (last : List S95) (hl : ∀ s ∈ last, StepOK s ∧ SAt 2097152 s) (hll : (units last).length ≤ 1) :
  ∃ d u, Ev (fun k => rawC k a b last) d ∧ FO 2097152 d ∧ Way a b u ∧ costU u = tc a b ∧ E (units d) (u ++ units last) := by
 obtain ⟨t, et, ht⟩ := table_ev a b ha hb (fun x hx => by have := (hpa x hx).2; omega)
 obtain ⟨u, eu, hw, hc⟩ := raw_spec ht ha hb hpa hpb (a.length + b.length + 1) 0 0 [] (Nat.zero_le _) (Nat.zero_le _) (by omega)
 rw [List.drop_zero, List.drop_zero] at hw hc
 rw [List.nil_append] at eu
 have hul := (hw.leads (fun x hx => (hpa x hx).1) (fun x hx => (hpb x hx).1)).2.2.2
 have hst := hw.steps hpa hpb
 have hlast := units_len (fun s hs => (hl s hs).1)
 obtain ⟨o, e2, fo, eo⟩ := tidy_gen (A := 2097152) (by omega) (u.map stepOf ++ last) ⟨[], [], 0⟩ (WF.nil _) (fun x hx => by rcases List.mem_append.1 hx with h | h; exact hst x h; exact hl x h) (by
  rw [units_app, units_stepOf, List.length_append]
  show 0 + _ ≤ _
  omega)
 rw [units_app, units_stepOf] at eo
 have e2' : Ev (fun k => tidyF k (u.map stepOf ++ last)) (o, 0) := Ev.congr (fun k => by unfold tidyF; rw [if_neg (by rw [List.length_append, List.length_map]; omega)]) e2
 exact ⟨o, u, Ev.bind et (Ev.bind eu (Ev.bind e2' (Ev.now _))), fo, hw, hc, eo⟩
theorem app_change {x y : S26} (hk : Alk x y) (hx : ElemOK x) (hy : ElemOK y) : app (mrg changeE x.f2 y.f2) x = y := by
 unfold app
 rw [lead_back hx.2 hy.2]
 cases x; cases y
 obtain ⟨h1, h2⟩ := hk
 simp only at h1 h2
 subst h1 h2
 rfl
theorem Way.run_more {a b : List S26} {u : List Un} (h : Way a b u) (z : List S26) : (∀ x ∈ a, ElemOK x) → (∀ y ∈ b, ElemOK y) → run (a ++ z) u = (b, z) := by
 induction h with
 | nil => intro _ _; rfl
 | @keep x y a b u hk h ih =>
  intro ha hb
  rw [List.cons_append, run, ih (fun w hw => ha w (List.mem_cons_of_mem _ hw)) (fun w hw => hb w (List.mem_cons_of_mem _ hw))]
  simp only
  rw [app_change hk (ha x List.mem_cons_self) (hb y List.mem_cons_self)]
 | @cut x a b u h ih =>
  intro ha hb
  rw [List.cons_append, run, ih (fun w hw => ha w (List.mem_cons_of_mem _ hw)) hb]
 | @add y a b u h ih =>
  intro ha hb
  rw [run, ih ha (fun w hw => hb w (List.mem_cons_of_mem _ hw))]
noncomputable def tcT (a b : List S26) : Nat := if Tied a b then tc (a.take (a.length - 1)) (b.take (b.length - 1)) + prc (lastE a) (lastE b) else tc a b
theorem take_last {a : List S26} (h : 0 < a.length) : a = a.take (a.length - 1) ++ [lastE a] := by
 have := drop_T26 a (a.length - 1) (by omega)
 rw [List.drop_eq_nil_of_le (i := a.length - 1 + 1) (by omega), show ((a.length - 1 : Nat) : Int) = (a.length : Int) - 1 by omega] at this
 conv => lhs; rw [← List.take_append_drop (a.length - 1) a, this]
 rfl
theorem last_mem {a : List S26} (h : 0 < a.length) : lastE a ∈ a := by
 have e : lastE a ∈ a.take (a.length - 1) ++ [lastE a] := List.mem_append_right _ (List.mem_singleton.2 rfl)
 rwa [← take_last h] at e
theorem cost_keep {x y : S26} (hx : ElemOK x) (hy : ElemOK y) (u : List Un) : costU (.keep (mrg changeE x.f2 y.f2) :: u) = costU u + prc x y := by
 unfold prc
 by_cases hs : x.f2 = y.f2
 ·rw [if_pos hs, show mrg changeE x.f2 y.f2 = [] from by rw [← hs]; exact change_self hx.2, costU]; rfl
 ·rw [if_neg hs]
  cases hm : mrg changeE x.f2 y.f2 with
  | nil => exact absurd (by have := lead_back hx.2 hy.2; rw [hm] at this; exact (app_nil_f2 hx.2).symm.trans this) hs
  | cons z l => rw [costU]
theorem rawF_spec (a b : List S26) (ha : a.length ≤ 1048576) (hb : b.length ≤ 1048576) (hpa : ∀ x ∈ a, ElemOK x ∧ x.f2.length ≤ 1048576) (hpb : ∀ x ∈ b, ElemOK x ∧ x.f2.length ≤ 1048576) :
  ∃ d, Ev (fun k => rawF k a b) d ∧ FO 2097152 d ∧ nold (units d) = a.length ∧ (run a (units d)).1 = b ∧ costU (units d) = tcT a b ∧ (units d).length ≤ a.length + b.length := by
 by_cases ht : Tied a b
 ·obtain ⟨h1, h2, h3, h4⟩ := ht
  have ea := take_last h1
  have eb := take_last h2
  have hxa := hpa (lastE a) (last_mem h1)
  have hyb := hpb (lastE b) (last_mem h2)
  have hA : ∀ x ∈ a.take (a.length - 1), ElemOK x ∧ x.f2.length ≤ 1048576 := fun x hx => hpa x (List.mem_of_mem_take hx)
  have hB : ∀ x ∈ b.take (b.length - 1), ElemOK x ∧ x.f2.length ≤ 1048576 := fun x hx => hpb x (List.mem_of_mem_take hx)
  have hk : Alk (lastE a) (lastE b) := by
   have c1 := hxa.1.1
   have c2 := hyb.1.1
   exact ⟨by omega, by rcases c1 with c1 | c1 <;> rcases c2 with c2 | c2 <;> omega⟩
  have hml := mrg_len changeE (lastE a).f2 (lastE b).f2
  obtain ⟨d, u, ed, fo, hw, hc, eE⟩ := rawC_spec (a.take (a.length - 1)) (b.take (b.length - 1)) (by rw [List.length_take]; omega) (by rw [List.length_take]; omega) hA hB [⟨0, 1, mrg changeE (lastE a).f2 (lastE b).f2, []⟩]
   (fun s hs => by rw [List.mem_singleton.1 hs]; exact ⟨.inl ⟨rfl, by show (1 : Int) ≤ 1; omega, by show (1 : Int) ≤ 2147483647; omega, rfl, va_change hxa.1.2 hyb.1.2⟩, by show (mrg changeE _ _).length ≤ _; omega, fun z hz => by cases hz⟩) (by show 1 ≤ 1; omega)
  have eU : units [(⟨0, 1, mrg changeE (lastE a).f2 (lastE b).f2, []⟩ : S95)] = [.keep (mrg changeE (lastE a).f2 (lastE b).f2)] := rfl
  rw [eU] at eE
  obtain ⟨_, lo, _, ll⟩ := hw.leads (fun x hx => (hA x hx).1) (fun x hx => (hB x hx).1)
  have hr := hw.run_more [lastE a] (fun x hx => (hA x hx).1) (fun x hx => (hB x hx).1)
  rw [← ea] at hr
  rw [List.length_take, List.length_take] at ll
  rw [List.length_take] at lo
  refine ⟨d, Ev.congr (fun k => ?_) ed, fo, ?_, ?_, ?_, ?_⟩
  ·unfold rawF
   rw [if_pos ⟨h1, h2, h3, h4⟩, change_f (by omega) (by omega), Option.bind_some]
  ·rw [eE.old, nold_app, lo]; show _ + 1 = _; omega
  ·rw [eE.run, run_app, hr]
   show (b.take (b.length - 1)) ++ (run [lastE a] [.keep _]).1 = b
   rw [run, app_change hk hxa.1 hyb.1]
   show _ ++ [lastE b] = b
   exact eb.symm
  ·rw [eE.cost, costU_app, cost_keep hxa.1 hyb.1, hc]
   unfold tcT
   rw [if_pos ⟨h1, h2, h3, h4⟩]
   show _ + (0 + _) = _
   omega
  ·rw [eE.len, List.length_append]; show _ + 1 ≤ _; omega
 ·obtain ⟨d, u, ed, fo, hw, hc, eE⟩ := rawC_spec a b ha hb hpa hpb [] (fun s hs => by cases hs) (by show 0 ≤ 1; omega)
  rw [units_nil, List.append_nil] at eE
  obtain ⟨lr, lo, _, ll⟩ := hw.leads (fun x hx => (hpa x hx).1) (fun x hx => (hpb x hx).1)
  exact ⟨d, Ev.congr (fun k => by unfold rawF; rw [if_neg ht]) ed, fo, by rw [eE.old, lo], by rw [eE.run, lr], by rw [eE.cost, hc]; unfold tcT; rw [if_neg ht], by rw [eE.len]; exact ll⟩
def raw100.T4 : Bool × List (List Nat × List Nat) := (true, [([], []), ([], []), ([1], [1]), ([2], [2]), ([0, 3], [0, 3]), ([4], [4]), ([], []), ([], []), ([7], [7]), ([8], [8]), ([6, 9], [6, 9]), ([10], [10]), ([], []), ([], []), ([12, 5, 0, 1, 2, 3, 4, 5, 12, 13], [5, 12]), ([13, 11, 14, 0, 1, 2, 3, 4, 5, 6, 7, 8, 9, 10, 11, 12, 13, 14], [11, 13])])
def raw100.B4 : List Nat := [0, 0, 2, 6, 15, 31, 0, 0, 128, 384, 960, 1984, 0, 0, 12351, 32767]
theorem raw100.tab4 : rtab .any (opsOf Try.f95 4) = raw100.T4 := by kernel_rfl
theorem raw100.bits4 : waitsOk raw100.T4.2 raw100.B4 = true := by kernel_rfl
def raw100.T6 : Bool × List (List Nat × List Nat) := (true, [([], []), ([], []), ([1], [1]), ([2], [2]), ([0, 3], [0, 3]), ([], []), ([], []), ([6], [6]), ([7], [7]), ([5, 8], [5, 8]), ([4, 0, 1, 2, 3, 4], [0, 1, 4]), ([9, 10, 0, 1, 2, 3, 4, 5, 6, 7, 8, 9, 10], [5, 6, 9])])
def raw100.B6 : List Nat := [0, 0, 2, 6, 15, 0, 0, 64, 192, 480, 31, 2047]
theorem raw100.tab6 : rtab .any (opsOf Try.f95 6) = raw100.T6 := by kernel_rfl
theorem raw100.bits6 : waitsOk raw100.T6.2 raw100.B6 = true := by kernel_rfl
def raw100.T13 : Bool × List (List Nat × List Nat) := (true, [([], []), ([], []), ([1], [1]), ([0, 2], [0, 2]), ([3], [3]), ([4], [4]), ([4], [4]), ([6, 4], [4, 6]), ([5, 7, 4], [4, 5, 7]), ([4, 8], [4, 8]), ([9, 4], [9]), ([10], [10]), ([10], [10]), ([11, 12, 10], [10, 11, 12]), ([13, 10], [10, 13]), ([10], [10]), ([10], [10]), ([15, 16, 10], [10, 15, 16]), ([17, 10], [10, 17]), ([14, 18, 10, 10], [10, 14, 18]), ([10, 19], [10, 19]), ([20, 19], [20]), ([21], [21]), ([21], [21]), ([22, 23, 21], [21, 22, 23]), ([24, 21], [21, 24]), ([21], [21]), ([25, 26, 21], [21, 25, 26]), ([27, 21], [21, 27]), ([21], [21]), ([21], [21]), ([30, 21], [21, 30]), ([29, 31, 21], [21, 29, 31]), ([32, 21], [21, 32]), ([21], [21]), ([34, 21], [21, 34]), ([33, 35, 21], [21, 33, 35]), ([36, 21], [21, 36]), ([21], [21]), ([21], [21]), ([38, 39, 21], [21, 38, 39]), ([40, 21], [21, 40]), ([21], [21]), ([21], [21]), ([42, 43, 21], [21, 42, 43]), ([44, 21], [21, 44]), ([41, 45, 21, 21], [21, 41, 45]), ([37, 46, 21], [21, 37, 46]), ([28, 47, 21], [21, 28, 47]), ([21, 48], [21, 48]), ([49, 46], [49])])
def raw100.B13 : List Nat := [0, 0, 2, 7, 15, 31, 31, 95, 255, 511, 1023, 2047, 2047, 8191, 16383, 2047, 2047, 100351, 231423, 524287, 1048575, 2097151, 4194303, 4194303, 16777215, 33554431, 4194303, 134217727, 268435455, 4194303, 4194303, 1077936127, 3762290687, 8057257983, 4194303, 17184063487, 68186800127, 136906276863, 4194303, 4194303, 824637915135, 1924149542911, 4194303, 4194303, 13194143727615, 30786329772031, 70093870465023, 140736955678719, 281474976710655, 562949953421311, 1125899906842623]
theorem raw100.tab13 : rtab .any (opsOf Try.f95 13) = raw100.T13 := by kernel_rfl
theorem raw100.bits13 : waitsOk raw100.T13.2 raw100.B13 = true := by kernel_rfl
def raw100.T14 : Bool × List (List Nat × List Nat) := (true, [([], []), ([], []), ([], []), ([1, 2], [1, 2]), ([3], [3]), ([4], [4]), ([], []), ([], []), ([6, 7], [6, 7]), ([8], [8]), ([9], [9]), ([5, 10], [5, 10]), ([11], [11]), ([12], [12]), ([0, 13, 11], [0, 13]), ([14, 14, 0, 1, 2, 3, 4, 5, 6, 7, 8, 9, 10, 11, 12, 13, 14], [0, 14])])
def raw100.B14 : List Nat := [0, 0, 0, 6, 14, 30, 0, 0, 192, 448, 960, 2046, 4094, 8190, 16383, 32767]
theorem raw100.tab14 : rtab .any (opsOf Try.f95 14) = raw100.T14 := by kernel_rfl
theorem raw100.bits14 : waitsOk raw100.T14.2 raw100.B14 = true := by kernel_rfl
def raw100.T16 : Bool × List (List Nat × List Nat) := (true, [([], []), ([], []), ([1], [1]), ([0, 2], [0, 2]), ([3], [3]), ([4], [4]), ([4], [4]), ([6, 4], [4, 6]), ([5, 7, 4], [4, 5, 7]), ([8, 4, 4], [4, 8]), ([9], [9]), ([9], [9]), ([10, 11, 9], [9, 10, 11]), ([12, 9], [9, 12]), ([9], [9]), ([13, 14, 9], [9, 13, 14]), ([15, 9], [9, 15]), ([9], [9]), ([9], [9]), ([18, 9], [9, 18]), ([17, 19, 9], [9, 17, 19]), ([20, 9], [9, 20]), ([9], [9]), ([21, 22, 9], [9, 21, 22]), ([23, 9], [9, 23]), ([24, 9], [9, 24]), ([16, 25, 9], [9, 16, 25]), ([9, 26, 4], [4, 9, 26]), ([4, 27], [4, 27]), ([28, 9], [28])])
def raw100.B16 : List Nat := [0, 0, 2, 7, 15, 31, 31, 95, 255, 511, 1023, 1023, 4095, 8191, 1023, 32767, 65535, 1023, 1023, 263167, 918527, 1967103, 1023, 8258559, 16647167, 33424383, 67108863, 134217727, 268435455, 536870911]
theorem raw100.tab16 : rtab .any (opsOf Try.f95 16) = raw100.T16 := by kernel_rfl
theorem raw100.bits16 : waitsOk raw100.T16.2 raw100.B16 = true := by kernel_rfl
theorem new_F {α β : Type} {d : Kd α} {d' : Kd β} {e e' base : Nat} {W w1 : World} {ok ok' : Nat → Prop} {v : Value} {A : Option Addr} {n c : Nat} {xs : List α} {ys : List β} (hR : d.R e w1 W.heap.size ok (.slice A n c) xs) (hN : Kd.N d' e' W base ok' v ys) : Kd.F d w1 (fun k => some k ≠ v.ownBlock) A n xs :=
 Kd.F_mono (Kd.R_F (Kd.R_bound hR)) (fun k hk he => by have h1 := Kd.N_lt hN k he.symm; have h2 := hk.2.1; omega)
theorem take_oneE (b : List S26) (j : Nat) (h : j < b.length) : (b.take (j + 1)).drop j = [rd_T26 b (j : Int)] := by
 rw [List.drop_take, drop_T26 b j h, Nat.add_sub_cancel_left]
 rfl
theorem cellT_some {t : List (List Int)} {i j c : Int} (h : cellT t i j = some c) : (0 ≤ i ∧ i < (t.length : Int) ∧ 0 ≤ j ∧ j < ((rd_L10 t i).length : Int)) ∧ rd (rd_L10 t i) j = c := by
 unfold cellT at h
 split at h
 ·exact ⟨by assumption, Option.some.inj h⟩
 ·cases h
theorem old_F {α β : Type} {d : Kd α} {d' : Kd β} {e' : Nat} (hd : Kd.Heap d) {w0 w : World} {ok : Nat → Prop} {v : Value} {A : Option Addr} {xs : List α} {ys : List β} (hC : Kd.C d w0 A xs.length xs) (hN : Kd.N d' e' w w0.heap.size ok v ys) (hB : Below w0.heap.size w0 w) : Kd.F d w (fun k => some k ≠ v.ownBlock) A xs.length xs :=
 Kd.F_mono (Kd.F_step (Kd.C_F hd hC) (fun k hk _ => hB.block k hk)) (fun k hk e => by have := Kd.N_base hN k e.symm; omega)
theorem two_boxes {W : World} {g1 g2 : Nat} {p0 p1 p2 q0 q1 q2 : Value} {t : TypeId} (h1 : W.heap[g1]? = some (.cells #[p0, p1, p2] t (0, 0))) (h2 : W.heap[g2]? = some (.cells #[q0, q1, q2] t (0, 0))) (hne : g1 ≠ g2) (a b c a' b' c' : Value) :
  ((((((W.setCell ⟨g1, 0, none⟩ a).setCell ⟨g1, 1, none⟩ b).setCell ⟨g1, 2, none⟩ c).setCell ⟨g2, 0, none⟩ a').setCell ⟨g2, 1, none⟩ b').setCell ⟨g2, 2, none⟩ c').heap[g1]? = some (.cells #[a, b, c] t (0, 0)) ∧
  ((((((W.setCell ⟨g1, 0, none⟩ a).setCell ⟨g1, 1, none⟩ b).setCell ⟨g1, 2, none⟩ c).setCell ⟨g2, 0, none⟩ a').setCell ⟨g2, 1, none⟩ b').setCell ⟨g2, 2, none⟩ c').heap[g2]? = some (.cells #[a', b', c'] t (0, 0)) :=
 ⟨blk_far (blk_far (blk_far (blk_put (blk_put (blk_put h1 0 a rfl) 1 b rfl) 2 c rfl) hne a') hne b') hne c',
  blk_put (blk_put (blk_put (blk_far (blk_far (blk_far h2 (Ne.symm hne) a) (Ne.symm hne) b) (Ne.symm hne) c) 0 a' rfl) 1 b' rfl) 2 c' rfl⟩
theorem far3 {B : Nat} {W : World} {g : Nat} {p : Addr} {v : Value} (h : W.cell? p = some v) (hp : p.block < B) (hg : B ≤ g) (a b c : Value) : (((W.setCell ⟨g, 0, none⟩ a).setCell ⟨g, 1, none⟩ b).setCell ⟨g, 2, none⟩ c).cell? p = some v :=
 have hn : p.block ≠ g := by omega
 (cell_far hn c).trans ((cell_far hn b).trans ((cell_far hn a).trans h))
theorem last_at {w : World} {A : Option Addr} {l : List S26} (h : Kd.C k26 w A l.length l) (hl : 0 < l.length) : ∃ n ad A2 c2, l.length = n + 1 ∧ A = some ad ∧ w.cell? (ad.add (n * 3)) = some (.int .i64 (lastE l).f0) ∧ w.cell? ⟨(ad.add (n * 3)).block, (ad.add (n * 3)).off + 1, none⟩ = some (.int .i64 (lastE l).f1) ∧ w.cell? ⟨(ad.add (n * 3)).block, (ad.add (n * 3)).off + 2, none⟩ = some (.slice A2 (lastE l).f2.length c2) ∧ (lastE l).f2.length ≤ c2 ∧ k91.C w A2 (lastE l).f2.length (lastE l).f2 := by
 obtain ⟨ad, A2, c2, e, h1, h2, h3, h4, h5⟩ := at_T26 h ((l.length : Int) - 1) (by omega) (by omega)
 have hn : ((l.length : Int) - 1).toNat = l.length - 1 := by omega
 rw [hn] at h1 h2 h3
 exact ⟨l.length - 1, ad, A2, c2, by omega, e, h1, h2, h3, h4, h5⟩
set_option maxRecDepth 100000 in
set_option maxHeartbeats 40000000 in
theorem raw_calls0 (n0 n1 : Nat) (k : Nat) (A0 : Option Addr) (c0 : Nat) (a : List S26) (A1 : Option Addr) (c1 : Nat) (b : List S26) (d : List S95) (w : World) (hr0 : Kd.C k26 w A0 a.length a) (hc0 : a.length ≤ c0) (hr1 : Kd.C k26 w A1 b.length b) (hc1 : b.length ≤ c1) (la : a.length ≤ 1048576) (lb : b.length ≤ 1048576)
  (hn0 : a.length = n0) (hn1 : b.length = n1) (h : rawF k a b = some d) :
  Calls Try.prog 95 #[.slice A0 n0 c0, .slice A1 n1 c1] w fun e w' => ∃ v : Value, e = .returned v ∧ Kd.N k95 95 w' w.heap.size (fun _ => True) v d ∧ Below w.heap.size w w' := by
 have hu26 := Try.underlying26
 have hu95 := Try.underlying95
 have HR0 := Aside0.mk hr0
 have HC0 := Aside0.mk hc0
 have HR1 := Aside0.mk hr1
 have HC1 := Aside0.mk hc1
 have HLA := Aside0.mk la
 have HLB := Aside0.mk lb
 have HF := Aside0.mk h
 have HN0 := Aside0.mk hn0
 have HN1 := Aside0.mk hn1
 clear hr0 hc0 hr1 hc1 la lb h hn0 hn1
 have HB0 := Aside0.mk (Below.refl w.heap.size w)
 go_enter Try.func95, Try.ntmps95
 go_upto_region 1 with (fail)
 go_cut [5] (fun v5 wx => ∃ tb : Bool, v5 = .bool tb ∧ Aside0 (tb = decide (Tied a b)) ∧ Aside0 (Below w.heap.size w wx))
 case first =>
  as_aux_lemma =>
   by_cases ha : 0 < n0
   rotate_left
   ·have g1 : decide ((0 : Int) < (n0 : Int)) = false := decide_eq_false (by omega)
    have g1' : decide (0 < n0) = false := decide_eq_false ha
    have HT := Aside0.mk (show decide (Tied a b) = false from decide_eq_false (fun h => ha (by have := h.1; have := HN0.out; omega)))
    clear ha
    go_wp2
    go_meet
    case rel => exact ⟨_, rfl, ⟨HT.out.symm⟩, HB0⟩
   have g1 : decide ((0 : Int) < (n0 : Int)) = true := decide_eq_true (by omega)
   have g1' : decide (0 < n0) = true := decide_eq_true ha
   by_cases hb : 0 < n1
   rotate_left
   ·have g2 : decide ((0 : Int) < (n1 : Int)) = false := decide_eq_false (by omega)
    have g2' : decide (0 < n1) = false := decide_eq_false hb
    have HT := Aside0.mk (show decide (Tied a b) = false from decide_eq_false (fun h => hb (by have := h.2.1; have := HN1.out; omega)))
    clear ha hb
    go_wp2
    go_meet
    case rel => exact ⟨_, rfl, ⟨HT.out.symm⟩, HB0⟩
   clear g1 g1'
   have hpa : 0 < a.length := by have := HN0.out; omega
   have hpb : 0 < b.length := by have := HN1.out; omega
   obtain ⟨n, ad, A2, c2, hn, rfl, hx0, hx1, hx2, hl2, hg2⟩ := last_at HR0.out hpa
   obtain ⟨m, bd, B2, m2, hm, rfl, hy0, hy1, hy2, hk2, hj2⟩ := last_at HR1.out hpb
   obtain rfl : n0 = n + 1 := by have := HN0.out; omega
   obtain rfl : n1 = m + 1 := by have := HN1.out; omega
   clear hx1 hx2 hl2 hg2 hy1 hy2 hk2 hj2
   have hT : decide (Tied a b) = (((lastE a).f0 == 10) && ((lastE b).f0 == 10)) := by
    rw [Bool.eq_iff_iff, Bool.and_eq_true, decide_eq_true_iff, beq_iff_eq, beq_iff_eq]
    exact ⟨fun h => h.2.2, fun h => ⟨hpa, hpb, h⟩⟩
   have HT := Aside0.mk hT
   clear hT ha hb hpa hpb
   obtain ⟨x, hx⟩ : ∃ x, x = (lastE a).f0 := ⟨_, rfl⟩
   obtain ⟨y, hy⟩ : ∃ y, y = (lastE b).f0 := ⟨_, rfl⟩
   rw [← hx] at hx0 HT
   rw [← hy] at hy0 HT
   clear hx hy
   have l0 : (n : Int) ≤ 1048576 := by have := HLA.out; omega
   have l1 : (m : Int) ≤ 1048576 := by have := HLB.out; omega
   clear hn hm
   obtain ⟨qx, hqx⟩ : ∃ q : Bool, (x == 10) = q := ⟨_, rfl⟩
   rw [hqx] at HT
   cases qx with
   | false =>
    go_wp2
    go_meet
    case rel => exact ⟨_, rfl, ⟨by rw [HT.out]; rfl⟩, HB0⟩
   | true =>
    go_wp2
    go_meet
    case rel => exact ⟨_, rfl, ⟨by rw [HT.out]; simp⟩, HB0⟩
 case rest =>
 obtain ⟨tb, rfl, HTB0, HB1⟩ := hcut
 clear HB0
 go_upto_if 43 with (fail)
 go_cut [0, 1, 6] (fun v0 v1 v6 wx => ∃ (A2 : Option Addr) (a' : List S26) (B2 : Option Addr) (b' : List S26) (last : List S95), v0 = .slice A2 a'.length c0 ∧ v1 = .slice B2 b'.length c1 ∧ Aside0 (Kd.C k26 wx A2 a'.length a' ∧ a'.length ≤ c0 ∧ a'.length ≤ 1048576) ∧ Aside0 (Kd.C k26 wx B2 b'.length b' ∧ b'.length ≤ c1 ∧ b'.length ≤ 1048576) ∧ Aside0 (Kd.N k95 95 wx w.heap.size (fun _ => True) v6 last ∧ last.length ≤ 1) ∧ Aside0 (rawC k a' b' last = some d) ∧ Aside0 (Below w.heap.size w wx))
 case first =>
  as_aux_lemma =>
   by_cases ht : Tied a b
   rotate_left
   ·obtain rfl : tb = false := HTB0.out.trans (decide_eq_false ht)
    have HF2 := Aside0.mk (show rawC k a b [] = some d from by have := HF.out; unfold rawF at this; rw [if_neg ht] at this; exact this)
    clear ht
    go_wp2
    go_meet
    case rel => exact ⟨A0, a, A1, b, [], by rw [HN0.out], by rw [HN1.out], ⟨Kd.C_below HR0.out HB1.out, HC0.out, HLA.out⟩, ⟨Kd.C_below HR1.out HB1.out, HC1.out, HLB.out⟩, ⟨Kd.N_nil _ _ _ _ _, Nat.zero_le _⟩, HF2, HB1⟩
   obtain rfl : tb = true := HTB0.out.trans (decide_eq_true ht)
   have hF := HF.out
   unfold rawF at hF
   rw [if_pos ht] at hF
   obtain ⟨ch, hch, hF⟩ := Option.bind_eq_some_iff.1 hF
   have HCH := Aside0.mk hch
   have HF2 := Aside0.mk hF
   obtain ⟨n, ad, A2, c2, hn, rfl, hx0, hx1, hx2, hl2, hg2⟩ := last_at HR0.out ht.1
   obtain ⟨m, bd, B2, m2, hm, rfl, hy0, hy1, hy2, hk2, hj2⟩ := last_at HR1.out ht.2.1
   clear ht hch hF
   obtain ⟨x, hx⟩ : ∃ x, x = lastE a := ⟨_, rfl⟩
   obtain ⟨y, hy⟩ : ∃ y, y = lastE b := ⟨_, rfl⟩
   rw [← hx] at hx0 hx1 hx2 hl2 hg2 HCH
   rw [← hy] at hy0 hy1 hy2 hk2 hj2 HCH
   clear hx hy
   obtain rfl : n0 = n + 1 := by have := HN0.out; omega
   obtain rfl : n1 = m + 1 := by have := HN1.out; omega
   have HTA := Aside0.mk (show (a.take (a.length - 1)).length = n by rw [List.length_take]; omega)
   have HTB := Aside0.mk (show (b.take (b.length - 1)).length = m by rw [List.length_take]; omega)
   have HLX := Aside0.mk hl2
   have HLY := Aside0.mk hk2
   have HGX := Aside0.mk hg2
   have HGY := Aside0.mk hj2
   have l0 : (n : Int) ≤ 1048576 := by have := HLA.out; omega
   have l1 : (m : Int) ≤ 1048576 := by have := HLB.out; omega
   clear hn hm hl2 hk2 hg2 hj2 HTB0
   go_upto_region 4 with (fail)
   have HBD := Aside0.mk (below_drew1 HB1.out)
   clear HB1
   have wn : wrap64 (n : Int) = (n : Int) := w64 (by omega) (by omega)
   have wm : wrap64 (m : Int) = (m : Int) := w64 (by omega) (by omega)
   have pn : (0 : Int) ≤ (n : Int) := by omega
   have pm : (0 : Int) ≤ (m : Int) := by omega
   have qn : (n : Int) < (n : Int) + 1 := by omega
   have qm : (m : Int) < (m : Int) + 1 := by omega
   refine start_ (n := 16) (S := fun w' => w'.cell? (ad.add (n * 3)) = some (.int .i64 x.f0) ∧ w'.cell? ⟨(ad.add (n * 3)).block, (ad.add (n * 3)).off + 1, none⟩ = some (.int .i64 x.f1) ∧ w'.cell? ⟨(ad.add (n * 3)).block, (ad.add (n * 3)).off + 2, none⟩ = some (.slice A2 x.f2.length c2) ∧ w'.cell? (bd.add (m * 3)) = some (.int .i64 y.f0) ∧ w'.cell? ⟨(bd.add (m * 3)).block, (bd.add (m * 3)).off + 1, none⟩ = some (.int .i64 y.f1) ∧ w'.cell? ⟨(bd.add (m * 3)).block, (bd.add (m * 3)).off + 2, none⟩ = some (.slice B2 y.f2.length m2)) (ds := [15]) #[false, false, false, false, false, false, false, false, false, false, false, false, false, false, false, false] (by kernel_rfl) rfl rfl ⟨((HBD.out.cell (World.block_lt_of_cell? w _ hx0)).trans hx0), ((HBD.out.cell (World.block_lt_of_cell? w _ hx1)).trans hx1), ((HBD.out.cell (World.block_lt_of_cell? w _ hx2)).trans hx2), ((HBD.out.cell (World.block_lt_of_cell? w _ hy0)).trans hy0), ((HBD.out.cell (World.block_lt_of_cell? w _ hy1)).trans hy1), ((HBD.out.cell (World.block_lt_of_cell? w _ hy2)).trans hy2)⟩ (fun hHeld => ?_)
   refine with_tabW raw100.tab4 raw100.bits4 (fun HT_ HW_ => ?_)
   refine pure_ (i := 0) (N := some 44) (v := ?_) (a' := ?_) (bm 1 16) rfl rfl (any_of HT_.out (by kernel_rfl)) (fun _ _ _ h => h) (Or.inl ⟨by rfl, ?_⟩) ?_ ?_
   rotate_left
   ·intro w'
    go_simp
    with_reducible rfl
   rotate_left
   ·simp only [Act.put, sA, sB, sC, i64_w, i32_w]
    rfl
   refine pure_ (i := 1) (N := some 45) (v := ?_) (a' := ?_) (bm 3 16) rfl rfl (any_of HT_.out (by kernel_rfl)) (fun _ _ _ h => h) (Or.inl ⟨by rfl, ?_⟩) ?_ ?_
   rotate_left
   ·intro w'
    go_simp
    with_reducible rfl
   rotate_left
   ·simp only [Act.put, sA, sB, sC, i64_w, i32_w]
    rfl
   refine pure_ (i := 2) (N := some 46) (v := ?_) (a' := ?_) (bm 7 16) rfl rfl (any_of HT_.out (by kernel_rfl)) (fun _ _ _ h => h) (Or.inl ⟨by rfl, ?_⟩) ?_ ?_
   rotate_left
   ·intro w'
    go_simp
    with_reducible rfl
   rotate_left
   ·simp only [Act.put, sA, sB, sC, i64_w, i32_w]
    rfl
   refine pure_ (i := 3) (N := some 47) (v := ?_) (a' := ?_) (bm 15 16) rfl rfl (any_of HT_.out (by kernel_rfl)) (fun _ _ _ h => h) (Or.inl ⟨by rfl, ?_⟩) ?_ ?_
   rotate_left
   ·intro w'
    go_simp
    with_reducible rfl
   rotate_left
   ·simp only [Act.put, sA, sB, sC, i64_w, i32_w]
    rfl
   refine pure_ (i := 4) (N := some 48) (v := ?_) (a' := ?_) (bm 31 16) rfl rfl (any_of HT_.out (by kernel_rfl)) (fun _ _ _ h => h) (Or.inl ⟨by rfl, ?_⟩) ?_ ?_
   rotate_left
   ·intro w'
    go_simp
    with_reducible rfl
   rotate_left
   ·simp only [Act.put, sA, sB, sC, i64_w, i32_w]
    rfl
   refine pure_ (i := 6) (N := some 50) (v := ?_) (a' := ?_) (bm 95 16) rfl rfl (any_of HT_.out (by kernel_rfl)) (fun _ _ _ h => h) (Or.inl ⟨by rfl, ?_⟩) ?_ ?_
   rotate_left
   ·intro w'
    go_simp
    with_reducible rfl
   rotate_left
   ·simp only [Act.put, sA, sB, sC, i64_w, i32_w]
    rfl
   refine pure_ (i := 7) (N := some 51) (v := ?_) (a' := ?_) (bm 223 16) rfl rfl (any_of HT_.out (by kernel_rfl)) (fun _ _ _ h => h) (Or.inl ⟨by rfl, ?_⟩) ?_ ?_
   rotate_left
   ·intro w'
    go_simp
    with_reducible rfl
   rotate_left
   ·simp only [Act.put, sA, sB, sC, i64_w, i32_w]
    rfl
   refine pure_ (i := 8) (N := some 52) (v := ?_) (a' := ?_) (bm 479 16) rfl rfl (any_of HT_.out (by kernel_rfl)) (fun _ _ _ h => h) (Or.inl ⟨by rfl, ?_⟩) ?_ ?_
   rotate_left
   ·intro w'
    go_simp
    with_reducible rfl
   rotate_left
   ·simp only [Act.put, sA, sB, sC, i64_w, i32_w]
    rfl
   refine pure_ (i := 9) (N := some 53) (v := ?_) (a' := ?_) (bm 991 16) rfl rfl (any_of HT_.out (by kernel_rfl)) (fun _ _ _ h => h) (Or.inl ⟨by rfl, ?_⟩) ?_ ?_
   rotate_left
   ·intro w'
    go_simp
    with_reducible rfl
   rotate_left
   ·simp only [Act.put, sA, sB, sC, i64_w, i32_w]
    rfl
   refine pure_ (i := 10) (N := some 54) (v := ?_) (a' := ?_) (bm 2015 16) rfl rfl (any_of HT_.out (by kernel_rfl)) (fun _ _ _ h => h) (Or.inl ⟨by rfl, ?_⟩) ?_ ?_
   rotate_left
   ·intro w'
    go_simp
    with_reducible rfl
   rotate_left
   ·simp only [Act.put, sA, sB, sC, i64_w, i32_w]
    rfl
   refine take_ (i := 5) (N := some 49) (v := ?_) (a' := ?_) (bm 2047 16) rfl rfl (take_ofW HT_.out HW_.out (by kernel_rfl)) (fun _ _ _ h => h) (Or.inl ⟨by rfl, ?_⟩) hHeld ?_ ?_
   rotate_left
   ·rintro w' ⟨s0, s1, s2, s3, s4, s5⟩
    go_simp
    with_reducible rfl
   rotate_left
   ·simp only [Act.put, sA, sB, sC, i64_w, i32_w]
    rfl
   refine take_ (i := 11) (N := some 55) (v := ?_) (a' := ?_) (bm 4095 16) rfl rfl (take_ofW HT_.out HW_.out (by kernel_rfl)) (fun _ _ _ h => h) (Or.inl ⟨by rfl, ?_⟩) hHeld ?_ ?_
   rotate_left
   ·rintro w' ⟨s0, s1, s2, s3, s4, s5⟩
    go_simp
    with_reducible rfl
   rotate_left
   ·simp only [Act.put, sA, sB, sC, i64_w, i32_w]
    rfl
   refine join_ (σ := Nat × Nat) 2 (bm 16383 16) (fun s_ => [(7, .pointer (some ⟨s_.1, 0, none⟩)), (8, .pointer (some ⟨s_.2, 0, none⟩))]) (fun s_ w' => (w'.cell? (ad.add (n * 3)) = some (.int .i64 x.f0) ∧ w'.cell? ⟨(ad.add (n * 3)).block, (ad.add (n * 3)).off + 1, none⟩ = some (.int .i64 x.f1) ∧ w'.cell? ⟨(ad.add (n * 3)).block, (ad.add (n * 3)).off + 2, none⟩ = some (.slice A2 x.f2.length c2) ∧ w'.cell? (bd.add (m * 3)) = some (.int .i64 y.f0) ∧ w'.cell? ⟨(bd.add (m * 3)).block, (bd.add (m * 3)).off + 1, none⟩ = some (.int .i64 y.f1) ∧ w'.cell? ⟨(bd.add (m * 3)).block, (bd.add (m * 3)).off + 2, none⟩ = some (.slice B2 y.f2.length m2)) ∧ w'.heap[s_.1]? = some (.cells #[.int .i64 0, .int .i64 0, .slice none 0 0] 26 (0, 0)) ∧ w'.heap[s_.2]? = some (.cells #[.int .i64 0, .int .i64 0, .slice none 0 0] 26 (0, 0)) ∧ s_.1 ≠ s_.2 ∧ w.heap.size ≤ s_.1 ∧ w.heap.size ≤ s_.2 ∧ Below w.heap.size w w') ?_ ?_
   rotate_left
   ·intro hCont
    refine two_ (i := 12) (j := 13) (Ni := some 7) (Nj := some 8) (bm 8191 16) (bm 12287 16) rfl rfl rfl rfl (two_of HT_.out (by kernel_rfl)) (by decide) (by decide) (fun K hK => ?_) (fun K hK => ?_)
    ·skip
     refine box_step ?hg (N := 7) ?hd (cs := #[.int .i64 0, .int .i64 0, .slice none 0 0]) (t := 26) ?hr ?_; (case hd => rfl); (case hg => rfl); (case hr => first | (go_simp; done) | (go_simp; rfl))
     intro g12_ hg_ w_12 hbox hb_
     have HS0_ := (hb_.cell (World.block_lt_of_cell? _ _ (hHeld.1))).trans (hHeld.1)
     have HS1_ := (hb_.cell (World.block_lt_of_cell? _ _ (hHeld.2.1))).trans (hHeld.2.1)
     have HS2_ := (hb_.cell (World.block_lt_of_cell? _ _ (hHeld.2.2.1))).trans (hHeld.2.2.1)
     have HS3_ := (hb_.cell (World.block_lt_of_cell? _ _ (hHeld.2.2.2.1))).trans (hHeld.2.2.2.1)
     have HS4_ := (hb_.cell (World.block_lt_of_cell? _ _ (hHeld.2.2.2.2.1))).trans (hHeld.2.2.2.2.1)
     have HS5_ := (hb_.cell (World.block_lt_of_cell? _ _ (hHeld.2.2.2.2.2))).trans (hHeld.2.2.2.2.2)
     have HBE := Aside0.mk (below_step HBD.out hb_)
     have BK12 := Aside0.mk hbox
     have GE12 : Aside0 (w.heap.size ≤ g12_) := ⟨by rw [hg_]; exact HBD.out.size⟩
     clear hb_ hbox hg_
     refine hK.out _ _ ⟨HS0_, HS1_, HS2_, HS3_, HS4_, HS5_⟩ (fun hHeld => ?_)
     clear hK K
     refine norm_ (a' := ?_) ?_ ?_
     rotate_left
     ·show Act.put _ (some 7) _ = _
      simp only [Act.put, sA, sB, sC, i64_w, i32_w]
      rfl
     refine one_ (i := 13) (N := some 8) (bm 16383 16) rfl rfl (one_of HT_.out (by kernel_rfl)) (by decide) (fun K hK => ?_)
     refine box_step ?hg (N := 8) ?hd (cs := #[.int .i64 0, .int .i64 0, .slice none 0 0]) (t := 26) ?hr ?_; (case hd => rfl); (case hg => rfl); (case hr => first | (go_simp; done) | (go_simp; rfl))
     intro g13_ hg_ w_13 hbox hb_
     have HS0_ := (hb_.cell (World.block_lt_of_cell? _ _ (hHeld.1))).trans (hHeld.1)
     have HS1_ := (hb_.cell (World.block_lt_of_cell? _ _ (hHeld.2.1))).trans (hHeld.2.1)
     have HS2_ := (hb_.cell (World.block_lt_of_cell? _ _ (hHeld.2.2.1))).trans (hHeld.2.2.1)
     have HS3_ := (hb_.cell (World.block_lt_of_cell? _ _ (hHeld.2.2.2.1))).trans (hHeld.2.2.2.1)
     have HS4_ := (hb_.cell (World.block_lt_of_cell? _ _ (hHeld.2.2.2.2.1))).trans (hHeld.2.2.2.2.1)
     have HS5_ := (hb_.cell (World.block_lt_of_cell? _ _ (hHeld.2.2.2.2.2))).trans (hHeld.2.2.2.2.2)
     have HBF := Aside0.mk (below_step HBE.out hb_)
     have BK13 := Aside0.mk hbox
     have GE13 : Aside0 (w.heap.size ≤ g13_) := ⟨by rw [hg_]; exact HBE.out.size⟩
     have NE := Aside0.mk (show g12_ ≠ g13_ from by rw [hg_]; exact Nat.ne_of_lt (blk_lt BK12.out))
     replace BK12 := Aside0.mk (blk_below BK12.out hb_)
     clear hb_ hbox hg_
     refine hK.out _ _ ⟨HS0_, HS1_, HS2_, HS3_, HS4_, HS5_⟩ (fun hHeld => ?_)
     clear hK K
     refine norm_ (a' := ?_) ?_ ?_
     rotate_left
     ·show Act.put _ (some 8) _ = _
      simp only [Act.put, sA, sB, sC, i64_w, i32_w]
      rfl
     exact norm_ (by simp only [putAll, Act.put, sA, sB, sC]) (hCont (g12_, g13_) _ ⟨hHeld, BK12.out, BK13.out, NE.out, GE12.out, GE13.out, HBF.out⟩)
    ·skip
     refine box_step ?hg (N := 8) ?hd (cs := #[.int .i64 0, .int .i64 0, .slice none 0 0]) (t := 26) ?hr ?_; (case hd => rfl); (case hg => rfl); (case hr => first | (go_simp; done) | (go_simp; rfl))
     intro g13_ hg_ w_13 hbox hb_
     have HS0_ := (hb_.cell (World.block_lt_of_cell? _ _ (hHeld.1))).trans (hHeld.1)
     have HS1_ := (hb_.cell (World.block_lt_of_cell? _ _ (hHeld.2.1))).trans (hHeld.2.1)
     have HS2_ := (hb_.cell (World.block_lt_of_cell? _ _ (hHeld.2.2.1))).trans (hHeld.2.2.1)
     have HS3_ := (hb_.cell (World.block_lt_of_cell? _ _ (hHeld.2.2.2.1))).trans (hHeld.2.2.2.1)
     have HS4_ := (hb_.cell (World.block_lt_of_cell? _ _ (hHeld.2.2.2.2.1))).trans (hHeld.2.2.2.2.1)
     have HS5_ := (hb_.cell (World.block_lt_of_cell? _ _ (hHeld.2.2.2.2.2))).trans (hHeld.2.2.2.2.2)
     have HBE := Aside0.mk (below_step HBD.out hb_)
     have BK13 := Aside0.mk hbox
     have GE13 : Aside0 (w.heap.size ≤ g13_) := ⟨by rw [hg_]; exact HBD.out.size⟩
     clear hb_ hbox hg_
     refine hK.out _ _ ⟨HS0_, HS1_, HS2_, HS3_, HS4_, HS5_⟩ (fun hHeld => ?_)
     clear hK K
     refine norm_ (a' := ?_) ?_ ?_
     rotate_left
     ·show Act.put _ (some 8) _ = _
      simp only [Act.put, sA, sB, sC, i64_w, i32_w]
      rfl
     refine one_ (i := 12) (N := some 7) (bm 16383 16) rfl rfl (one_of HT_.out (by kernel_rfl)) (by decide) (fun K hK => ?_)
     refine box_step ?hg (N := 7) ?hd (cs := #[.int .i64 0, .int .i64 0, .slice none 0 0]) (t := 26) ?hr ?_; (case hd => rfl); (case hg => rfl); (case hr => first | (go_simp; done) | (go_simp; rfl))
     intro g12_ hg_ w_12 hbox hb_
     have HS0_ := (hb_.cell (World.block_lt_of_cell? _ _ (hHeld.1))).trans (hHeld.1)
     have HS1_ := (hb_.cell (World.block_lt_of_cell? _ _ (hHeld.2.1))).trans (hHeld.2.1)
     have HS2_ := (hb_.cell (World.block_lt_of_cell? _ _ (hHeld.2.2.1))).trans (hHeld.2.2.1)
     have HS3_ := (hb_.cell (World.block_lt_of_cell? _ _ (hHeld.2.2.2.1))).trans (hHeld.2.2.2.1)
     have HS4_ := (hb_.cell (World.block_lt_of_cell? _ _ (hHeld.2.2.2.2.1))).trans (hHeld.2.2.2.2.1)
     have HS5_ := (hb_.cell (World.block_lt_of_cell? _ _ (hHeld.2.2.2.2.2))).trans (hHeld.2.2.2.2.2)
     have HBF := Aside0.mk (below_step HBE.out hb_)
     have BK12 := Aside0.mk hbox
     have GE12 : Aside0 (w.heap.size ≤ g12_) := ⟨by rw [hg_]; exact HBE.out.size⟩
     have NE := Aside0.mk (show g13_ ≠ g12_ from by rw [hg_]; exact Nat.ne_of_lt (blk_lt BK13.out))
     replace BK13 := Aside0.mk (blk_below BK13.out hb_)
     clear hb_ hbox hg_
     refine hK.out _ _ ⟨HS0_, HS1_, HS2_, HS3_, HS4_, HS5_⟩ (fun hHeld => ?_)
     clear hK K
     refine norm_ (a' := ?_) ?_ ?_
     rotate_left
     ·show Act.put _ (some 7) _ = _
      simp only [Act.put, sA, sB, sC, i64_w, i32_w]
      rfl
     exact norm_ (by simp only [putAll, Act.put, sA, sB, sC]) (hCont (g12_, g13_) _ ⟨hHeld, BK12.out, BK13.out, (Ne.symm NE.out), GE12.out, GE13.out, HBF.out⟩)
   rintro ⟨g1, g2⟩ w5 ⟨hS_, hk1_, hk2_, hne_, hge1_, hge2_, hb_⟩
   have HK1 : Aside0 (w5.heap[g1]? = some (.cells #[.int .i64 0, .int .i64 0, .slice none 0 0] 26 (0, 0))) := ⟨hk1_⟩
   have HK2 : Aside0 (w5.heap[g2]? = some (.cells #[.int .i64 0, .int .i64 0, .slice none 0 0] 26 (0, 0))) := ⟨hk2_⟩
   have HNE : Aside0 (g1 ≠ g2) := ⟨hne_⟩
   have HG1 : Aside0 (w.heap.size ≤ g1) := ⟨hge1_⟩
   have HG2 : Aside0 (w.heap.size ≤ g2) := ⟨hge2_⟩
   have HB5 : Aside0 (Below w.heap.size w w5) := ⟨hb_⟩
   have hHeld : w5.cell? (ad.add (n * 3)) = some (.int .i64 x.f0) ∧ w5.cell? ⟨(ad.add (n * 3)).block, (ad.add (n * 3)).off + 1, none⟩ = some (.int .i64 x.f1) ∧ w5.cell? ⟨(ad.add (n * 3)).block, (ad.add (n * 3)).off + 2, none⟩ = some (.slice A2 x.f2.length c2) ∧ w5.cell? (bd.add (m * 3)) = some (.int .i64 y.f0) ∧ w5.cell? ⟨(bd.add (m * 3)).block, (bd.add (m * 3)).off + 1, none⟩ = some (.int .i64 y.f1) ∧ w5.cell? ⟨(bd.add (m * 3)).block, (bd.add (m * 3)).off + 2, none⟩ = some (.slice B2 y.f2.length m2) := hS_
   clear hS_ hk1_ hk2_ hne_ hge1_ hge2_ hb_ HBD
   refine norm_ (a' := ?_) ?_ ?_
   rotate_left
   ·simp only [putAll, Act.put, sA, sB, sC]
    rfl
   refine one_ (i := 14) (N := none) (bm 32767 16) rfl rfl (one_of HT_.out (by kernel_rfl)) (by decide) (fun K hK => ?_)
   have hs0 : w5.cell? ⟨g1, 0, none⟩ = some (.int .i64 0) := (blk_cell HK1.out 0).trans rfl
   have hs1 : w5.cell? ⟨g1, 1, none⟩ = some (.int .i64 0) := (blk_cell HK1.out 1).trans rfl
   have hs2 : w5.cell? ⟨g1, 2, none⟩ = some (.slice none 0 0) := (blk_cell HK1.out 2).trans rfl
   have hf0 := blk_frozen HK1.out 0
   have hf1 := blk_frozen HK1.out 1
   have hf2 := blk_frozen HK1.out 2
   refine skip_ (w1 := ?_) (by rfl) rfl ?_ ?_
   rotate_left
   ·go_simp
    rfl
   clear hs0 hs1 hs2 hf0 hf1 hf2
   refine hK.out _ _ ⟨far3 hHeld.1 (World.block_lt_of_cell? w _ hx0) HG1.out _ _ _, far3 hHeld.2.1 (World.block_lt_of_cell? w _ hx1) HG1.out _ _ _, far3 hHeld.2.2.1 (World.block_lt_of_cell? w _ hx2) HG1.out _ _ _, far3 hHeld.2.2.2.1 (World.block_lt_of_cell? w _ hy0) HG1.out _ _ _, far3 hHeld.2.2.2.2.1 (World.block_lt_of_cell? w _ hy1) HG1.out _ _ _, far3 hHeld.2.2.2.2.2 (World.block_lt_of_cell? w _ hy2) HG1.out _ _ _⟩ (fun hHeld => ?_)
   clear hK K
   refine last_ (i := 15) (N := none) (bm 65535 16) rfl rfl (one_of HT_.out (by kernel_rfl)) (by decide) (fun K hK => ?_)
   have hne := HNE.out
   have hne' := Ne.symm HNE.out
   have hs0 : w5.cell? ⟨g2, 0, none⟩ = some (.int .i64 0) := (blk_cell HK2.out 0).trans rfl
   have hs1 : w5.cell? ⟨g2, 1, none⟩ = some (.int .i64 0) := (blk_cell HK2.out 1).trans rfl
   have hs2 : w5.cell? ⟨g2, 2, none⟩ = some (.slice none 0 0) := (blk_cell HK2.out 2).trans rfl
   have hf0 := blk_frozen HK2.out 0
   have hf1 := blk_frozen HK2.out 1
   have hf2 := blk_frozen HK2.out 2
   refine skip_ (w1 := ?_) (by rfl) rfl ?_ ?_
   rotate_left
   ·go_simp
    rfl
   clear hs0 hs1 hs2 hf0 hf1 hf2
   refine hK.out _ _ ?_
   clear hK K
   refine done_ (done_of HT_.out (by kernel_rfl)) ?_
   clear wn wm pn pm qn qm
   go_upto_region 5 with (fail)
   obtain ⟨w6, hw6⟩ : ∃ w', w' = (((((w5.setCell ⟨g1, 0, none⟩ (.int .i64 x.f0)).setCell ⟨g1, 1, none⟩ (.int .i64 x.f1)).setCell ⟨g1, 2, none⟩ (.slice A2 x.f2.length c2)).setCell ⟨g2, 0, none⟩ (.int .i64 y.f0)).setCell ⟨g2, 1, none⟩ (.int .i64 y.f1)).setCell ⟨g2, 2, none⟩ (.slice B2 y.f2.length m2) := ⟨_, rfl⟩
   have HB6 : Aside0 (Below w.heap.size w w6) := ⟨by rw [hw6]; exact below_set (below_set (below_set (below_set (below_set (below_set HB5.out HG1.out) HG1.out) HG1.out) HG2.out) HG2.out) HG2.out⟩
   have hk := two_boxes HK1.out HK2.out HNE.out (.int .i64 x.f0) (.int .i64 x.f1) (.slice A2 x.f2.length c2) (.int .i64 y.f0) (.int .i64 y.f1) (.slice B2 y.f2.length m2)
   rw [← hw6] at hk ⊢
   have hp2 : w6.cell? ⟨g1, 2, none⟩ = some (.slice A2 x.f2.length c2) := (blk_cell hk.1 2).trans rfl
   have hq2 : w6.cell? ⟨g2, 2, none⟩ = some (.slice B2 y.f2.length m2) := (blk_cell hk.2 2).trans rfl
   clear hk hw6 HK1 HK2 HNE HG1 HG2 HB5 hx0 hx1 hx2 hy0 hy1 hy2
   go_upto_region 6 with (first
    | (go_at_call 80; (with_reducible refine (attr_Change.calls A2 c2 x.f2 B2 m2 y.f2 ch w6 (Kd.C_below HGX.out HB6.out) HLX.out (Kd.C_below HGY.out HB6.out) HLY.out HCH.out).mono ?_); rintro e7 w7 ⟨v7, rfl, hR, hb⟩; obtain ⟨A7, n7, rfl⟩ := Kd.R_slice hR; have HR7 := Aside0.mk hR; have HB7 := Aside0.mk (below_step HB6.out hb); clear hR hb hp2 hq2)
    | ((with_reducible refine gate_dst (N := 62) rfl ?_); refine Kd.N_lit k95 (w0 := w) w.heap.size 95 ?hg (N' := 62) ?hd (xs := [(⟨0, 1, ch, []⟩ : S95)]) (inner := [.int .i64 0, .int .i64 1, .slice A7 ch.length n7, .slice none 0 0]) (ok := fun _ => True) (okp := fun _ => True) ?hr ?hp (fun _ _ => trivial) trivial HB7.out HB7.out.size (by simp) ?_; (case hd => rfl); (case hg => rfl); (case hr => first | (go_simp; done) | (go_simp; rfl)); (case hp => exact Reps.c4 (k95_mkF _ _ (⟨0, 1, ch, []⟩ : S95) (Kd.R_reads' HR7.out).2.1 (Kd.R_F HR7.out) (Nat.le_refl _) (Kd.F_nil _ _ _)) (Reps.none _ _)); intro v8 w8 hN hb _ _; have HN8 := Aside0.mk hN; have HB8 := Aside0.mk hb; clear hN hb))
   obtain ⟨i084, hi084, _, _, _⟩ := info_parts info26
   have hcx : ∀ W : World, (Instr.slice 22 (.slice (some ad) (n + 1) c0) none (some (.int .i64 (n : Int))) none).run Try.prog W = .ok (.slice (some ad) n c0) W := fun W => cut_to (P := Try.prog) 22 26 .i64 Try.underlying22 hi084 (some ad) (n + 1) c0 (n : Int) (by omega) (by omega) (by have := HC0.out; have := HN0.out; omega) W
   have hcy : ∀ W : World, (Instr.slice 22 (.slice (some bd) (m + 1) c1) none (some (.int .i64 (m : Int))) none).run Try.prog W = .ok (.slice (some bd) m c1) W := fun W => cut_to (P := Try.prog) 22 26 .i64 Try.underlying22 hi084 (some bd) (m + 1) c1 (m : Int) (by omega) (by omega) (by have := HC1.out; have := HN1.out; omega) W
   clear hi084
   have wn : wrap64 (n : Int) = (n : Int) := w64 (by omega) (by omega)
   have wm : wrap64 (m : Int) = (m : Int) := w64 (by omega) (by omega)
   refine start_ (n := 12) (S := fun w' => True) (ds := []) #[false, false, false, false, false, false, false, false, false, false, false, false] (by kernel_rfl) rfl rfl trivial (fun hHeld => ?_)
   refine with_tabW raw100.tab6 raw100.bits6 (fun HT_ HW_ => ?_)
   refine pure_ (i := 0) (N := some 63) (v := ?_) (a' := ?_) (bm 1 12) rfl rfl (any_of HT_.out (by kernel_rfl)) (fun _ _ _ h => h) (Or.inl ⟨by rfl, ?_⟩) ?_ ?_
   rotate_left
   ·intro w'
    go_simp
    with_reducible rfl
   rotate_left
   ·simp only [Act.put, sA, sB, sC, i64_w, i32_w]
    rfl
   refine pure_ (i := 1) (N := some 64) (v := ?_) (a' := ?_) (bm 3 12) rfl rfl (any_of HT_.out (by kernel_rfl)) (fun _ _ _ h => h) (Or.inl ⟨by rfl, ?_⟩) ?_ ?_
   rotate_left
   ·intro w'
    go_simp
    with_reducible rfl
   rotate_left
   ·simp only [Act.put, sA, sB, sC, i64_w, i32_w]
    rfl
   refine pure_ (i := 2) (N := some 65) (v := ?_) (a' := ?_) (bm 7 12) rfl rfl (any_of HT_.out (by kernel_rfl)) (fun _ _ _ h => h) (Or.inl ⟨by rfl, ?_⟩) ?_ ?_
   rotate_left
   ·intro w'
    go_simp
    with_reducible rfl
   rotate_left
   ·simp only [Act.put, sA, sB, sC, i64_w, i32_w]
    rfl
   refine pure_ (i := 3) (N := some 66) (v := ?_) (a' := ?_) (bm 15 12) rfl rfl (any_of HT_.out (by kernel_rfl)) (fun _ _ _ h => h) (Or.inl ⟨by rfl, ?_⟩) ?_ ?_
   rotate_left
   ·intro w'
    go_simp
    with_reducible rfl
   rotate_left
   ·simp only [Act.put, sA, sB, sC, i64_w, i32_w]
    rfl
   refine pure_ (i := 4) (N := some 67) (v := ?_) (a' := ?_) (bm 31 12) rfl rfl (any_of HT_.out (by kernel_rfl)) (fun _ _ _ h => h) (Or.inl ⟨by rfl, ?_⟩) ?_ ?_
   rotate_left
   ·intro w'
    go_simp
    with_reducible rfl
   rotate_left
   ·simp only [Act.put, sA, sB, sC, i64_w, i32_w]
    rfl
   refine pure_ (i := 5) (N := some 68) (v := ?_) (a' := ?_) (bm 63 12) rfl rfl (any_of HT_.out (by kernel_rfl)) (fun _ _ _ h => h) (Or.inl ⟨by rfl, ?_⟩) ?_ ?_
   rotate_left
   ·intro w'
    go_simp
    with_reducible rfl
   rotate_left
   ·simp only [Act.put, sA, sB, sC, i64_w, i32_w]
    rfl
   refine pure_ (i := 6) (N := some 69) (v := ?_) (a' := ?_) (bm 127 12) rfl rfl (any_of HT_.out (by kernel_rfl)) (fun _ _ _ h => h) (Or.inl ⟨by rfl, ?_⟩) ?_ ?_
   rotate_left
   ·intro w'
    go_simp
    with_reducible rfl
   rotate_left
   ·simp only [Act.put, sA, sB, sC, i64_w, i32_w]
    rfl
   refine pure_ (i := 7) (N := some 70) (v := ?_) (a' := ?_) (bm 255 12) rfl rfl (any_of HT_.out (by kernel_rfl)) (fun _ _ _ h => h) (Or.inl ⟨by rfl, ?_⟩) ?_ ?_
   rotate_left
   ·intro w'
    go_simp
    with_reducible rfl
   rotate_left
   ·simp only [Act.put, sA, sB, sC, i64_w, i32_w]
    rfl
   refine pure_ (i := 8) (N := some 71) (v := ?_) (a' := ?_) (bm 511 12) rfl rfl (any_of HT_.out (by kernel_rfl)) (fun _ _ _ h => h) (Or.inl ⟨by rfl, ?_⟩) ?_ ?_
   rotate_left
   ·intro w'
    go_simp
    with_reducible rfl
   rotate_left
   ·simp only [Act.put, sA, sB, sC, i64_w, i32_w]
    rfl
   refine pure_ (i := 9) (N := some 72) (v := ?_) (a' := ?_) (bm 1023 12) rfl rfl (any_of HT_.out (by kernel_rfl)) (fun _ _ _ h => h) (Or.inl ⟨by rfl, ?_⟩) ?_ ?_
   rotate_left
   ·intro w'
    go_simp
    with_reducible rfl
   rotate_left
   ·simp only [Act.put, sA, sB, sC, i64_w, i32_w]
    rfl
   refine pure_ (i := 10) (N := some 0) (v := ?_) (a' := ?_) (bm 2047 12) rfl rfl (any_of HT_.out (by kernel_rfl)) (fun _ _ _ h => h) (Or.inl ⟨by rfl, ?_⟩) ?_ ?_
   rotate_left
   ·intro w'
    go_simp
    with_reducible rfl
   rotate_left
   ·simp only [Act.put, sA, sB, sC, i64_w, i32_w]
    rfl
   refine pure_ (i := 11) (N := some 1) (v := ?_) (a' := ?_) (bm 4095 12) rfl rfl (any_of HT_.out (by kernel_rfl)) (fun _ _ _ h => h) (Or.inl ⟨by rfl, ?_⟩) ?_ ?_
   rotate_left
   ·intro w'
    go_simp
    with_reducible rfl
   rotate_left
   ·simp only [Act.put, sA, sB, sC, i64_w, i32_w]
    rfl
   refine done_ (done_of HT_.out (by kernel_rfl)) ?_
   clear wn wm hcx hcy
   go_wp2
   go_meet
   case rel =>
    have hla := HLA.out
    have hlb := HLB.out
    have hta := HTA.out
    have htb := HTB.out
    have h0 := HC0.out
    have h1 := HC1.out
    exact ⟨some ad, a.take (a.length - 1), some bd, b.take (b.length - 1), [⟨0, 1, ch, []⟩], by rw [HTA.out], by rw [HTB.out], ⟨Kd.C_take (Kd.C_below HR0.out (below_drew1 HB8.out)) (by omega), by rw [List.length_take]; omega, by rw [List.length_take]; omega⟩, ⟨Kd.C_take (Kd.C_below HR1.out (below_drew1 HB8.out)) (by omega), by rw [List.length_take]; omega, by rw [List.length_take]; omega⟩, ⟨Kd.N_drew HN8.out, Nat.le_refl _⟩, HF2, ⟨below_drew1 HB8.out⟩⟩
 case rest =>
 obtain ⟨A2, a2, B2, b2, last, rfl, rfl, HA, HB, HL, HRC, HB1⟩ := hcut
 clear HTB0 HR0 HR1 HC0 HC1 HLA HLB HF HN0 HN1
 obtain ⟨A6, n6, e6⟩ := Kd.N_slice HL.out.1
 subst e6
 obtain ⟨t, ht, hrest⟩ := Option.bind_eq_some_iff.1 HRC.out
 obtain ⟨o, ho, hrest⟩ := Option.bind_eq_some_iff.1 hrest
 obtain ⟨r, hr, hrest⟩ := Option.bind_eq_some_iff.1 hrest
 injection hrest with hrest
 subst hrest
 have HT := Aside0.mk ht
 have HO := Aside0.mk ho
 have HR := Aside0.mk hr
 clear ht ho hr HRC
 go_upto_region 8 with (go_at_call 132; (with_reducible refine (diff_table.calls k A2 c0 a2 B2 c1 b2 t wc HA.out.1 HA.out.2.1 HB.out.1 HB.out.2.1 HT.out).mono ?_); rintro e3 w3 ⟨v3, rfl, hS, hb⟩; obtain ⟨A3, n3, e4⟩ := Kd.N_slice (Kd.S_N hS); subst e4; have HT3 := Aside0.mk (Kd.N_reads' (Kd.S_N hS)).2.2; have HA3 := Aside0.mk (And.intro (Kd.C_below HA.out.1 hb) HA.out.2); have HB3 := Aside0.mk (And.intro (Kd.C_below HB.out.1 hb) HB.out.2); have HL3 := Aside0.mk (And.intro (Kd.N_reads' (Kd.N_below HL.out.1 hb)) HL.out.2); have HB2 := Aside0.mk (below_step HB1.out hb); clear hS hb)
 clear HA HB HL HB1 HT
 have HN0 : Aside0 (Kd.N k95 95 w3 w3.heap.size (fun _ => True) (.slice none 0 0) ([] : List S95)) := ⟨Kd.N_nil _ _ _ _ _⟩
 have HBW : Aside0 (Below w3.heap.size w3 w3) := ⟨Below.refl _ _⟩
 have HI0 : Aside0 (0 ≤ a2.length ∧ 0 ≤ b2.length ∧ ([] : List S95).length + (a2.length + b2.length + 1) ≤ 4194304) := ⟨⟨Nat.zero_le _, Nat.zero_le _, by have := HA3.out.2.2; have := HB3.out.2.2; simp only [List.length_nil]; omega⟩⟩
 go_wp2
 go_loopg [10, 11, 12] (a2.length + b2.length + 1) (fun m v10 v11 v12 wr => ∃ (i j : Nat) (out : List S95), v11 = .int .i64 (i : Int) ∧ v12 = .int .i64 (j : Int) ∧ Aside0 (i ≤ a2.length ∧ j ≤ b2.length ∧ out.length + m ≤ 4194304) ∧ Aside0 (Kd.N k95 95 wr w3.heap.size (fun _ => True) v10 out) ∧ Aside0 (Below w3.heap.size w3 wr) ∧ Aside0 (rawL k a2 b2 t m i j out = some o))
 case atStart => exact ⟨0, 0, [], rfl, rfl, HI0, HN0, HBW, HO⟩
 case round =>
  clear HI0 HN0 HBW HO
  obtain ⟨i, j, out, rfl, rfl, HI, HN, HBR, HLL⟩ := hrel
  obtain ⟨A10, n10, e10⟩ := Kd.N_slice HN.out
  subst e10
  cases gk with
  | zero => exact absurd HLL.out (by rw [rawL]; simp)
  | succ gl =>
  have hL := HLL.out
  rw [rawL] at hL
  clear HLL
  by_cases c0 : i < a2.length ∨ j < b2.length
  rotate_left
  ·rw [if_neg c0] at hL
   injection hL with hL
   subst hL
   have g1 : decide ((i : Int) < (a2.length : Int)) = false := decide_eq_false (by omega)
   have g1' : decide (i < a2.length) = false := decide_eq_false (by omega)
   have g2 : decide ((j : Int) < (b2.length : Int)) = false := decide_eq_false (by omega)
   have g2' : decide (j < b2.length) = false := decide_eq_false (by omega)
   clear c0
   obtain ⟨ol, hol⟩ : ∃ l, l = out ++ last := ⟨_, rfl⟩
   rw [← hol] at HR
   have HOL := Aside0.mk hol
   clear hol
   go_wp2_with (first
    | ((with_reducible refine gate_builtin (b := .append) (xs := #[.tmp 204, .tmp 205]) rfl ?_); at_builtin; refine Kd.N_append_rows k95 (w0 := w3) w3.heap.size rfl (.tmp 204) (.tmp 205) 28 95 (.agg #[.int .i64 0, .int .i64 0, .slice none 0 0, .slice none 0 0]) 64 rfl Try.underlying28 info95 rfl (by decide) (by decide) (.slice A10 out.length n10) out last A6 last.length n6 (fun _ => True) (fun k => some k ≠ (Value.slice A10 out.length n10).ownBlock) (by rfl) (by rfl) HN.out ?aF (fun _ hk => ⟨trivial, hk⟩) (fun _ _ => trivial) HBR.out HBR.out.size ?al ?_; (case aF => exact old_F k95_heap HL3.out.1.2.2 HN.out HBR.out); (case al => have := HL3.out.2; have := HI.out.2.2; omega); intro v4 w4 hN4 hb4 _ _; rw [← HOL.out] at hN4; obtain ⟨A4, n4, h4⟩ := Kd.N_slice hN4; subst h4; have HN4 := Aside0.mk (Kd.N_reads' hN4); have HB4 := Aside0.mk hb4; clear hN4 hb4)
    | (go_at_call 85; (with_reducible refine (tidy_calls k A4 n4 ol r.1 r.2 w4 HN4.out.2.2 HN4.out.2.1 HR.out).mono ?_); rintro e5 w5 ⟨v5, rfl, hR5, hb5⟩; have HR5 := Aside0.mk hR5; have HB5 := Aside0.mk hb5; clear hR5 hb5))
   go_ret
   exact ⟨_, rfl, Kd.N_lower HR5.out (Nat.le_trans HB2.out.size HB4.out.size), below_step HB2.out (below_step HB4.out HB5.out)⟩
  rw [if_pos c0] at hL
  have HC := Aside0.mk c0
  clear c0
  obtain ⟨x, hx⟩ : ∃ x, x = rd_T26 a2 (i : Int) := ⟨_, rfl⟩
  obtain ⟨y, hy⟩ : ∃ y, y = rd_T26 b2 (j : Int) := ⟨_, rfl⟩
  rw [← hx, ← hy] at hL
  have HX := Aside0.mk hx
  have HY := Aside0.mk hy
  clear hx hy
  obtain ⟨q, hq, hL⟩ := Option.bind_eq_some_iff.1 hL
  have HQ := Aside0.mk hq
  have HLQ := Aside0.mk hL
  clear hq hL
  go_upto_region 10 with (fail)
  go_cut [85] (fun v85 wx => v85 = .bool true ∧ wx = wr)
  case first =>
   as_aux_lemma =>
    by_cases ci : i < a2.length
    ·have g1 : decide ((i : Int) < (a2.length : Int)) = true := decide_eq_true (by omega)
     have g1' : decide (i < a2.length) = true := decide_eq_true ci
     clear ci
     go_wp2
     go_meet
     case rel => exact ⟨rfl, rfl⟩
    ·have g1 : decide ((i : Int) < (a2.length : Int)) = false := decide_eq_false (by omega)
     have g1' : decide (i < a2.length) = false := decide_eq_false ci
     have cj : j < b2.length := by have := HC.out; omega
     have g2 : decide ((j : Int) < (b2.length : Int)) = true := decide_eq_true (by omega)
     have g2' : decide (j < b2.length) = true := decide_eq_true cj
     clear ci cj
     go_wp2
     go_meet
     case rel => exact ⟨rfl, rfl⟩
  case rest =>
  obtain ⟨rfl, rfl⟩ := hcut
  have HCC := HC
  clear HC
  go_upto_region 13 with (fail)
  go_cut [97] (fun v97 wx => v97 = .bool q ∧ Aside0 (Kd.N k95 95 wx w3.heap.size (fun _ => True) (.slice A10 out.length n10) out) ∧ Aside0 (Below w3.heap.size w3 wx))
  case first =>
   as_aux_lemma =>
    have HBD := Aside0.mk (below_drew1 HBR.out)
    have HND := Aside0.mk (Kd.N_drew HN.out)
    have hq := HQ.out
    clear HBR HN HQ HLQ
    by_cases ci : i < a2.length
    rotate_left
    ·rw [if_neg (fun h => ci h.1)] at hq
     injection hq with hq
     subst hq
     have g1 : decide ((i : Int) < (a2.length : Int)) = false := decide_eq_false (by omega)
     have g1' : decide (i < a2.length) = false := decide_eq_false ci
     clear ci
     refine start_ (n := 51) (S := fun w' => True) (ds := []) #[false, false, false, false, false, false, false, false, false, false, false, false, false, false, false, false, false, false, false, false, false, false, false, false, false, false, false, false, false, false, false, false, false, false, false, false, false, false, false, false, false, false, false, false, false, false, false, false, false, false, false] (by kernel_rfl) rfl rfl trivial (fun hHeld => ?_)
     refine with_tabW raw100.tab13 raw100.bits13 (fun HT_ HW_ => ?_)
     refine pure_ (i := 0) (N := some 98) (v := ?_) (a' := ?_) (bm 1 51) rfl rfl (any_of HT_.out (by kernel_rfl)) (fun _ _ _ h => h) (Or.inl ⟨by rfl, ?_⟩) ?_ ?_
     rotate_left
     ·intro w'
      go_simp
      with_reducible rfl
     rotate_left
     ·simp only [Act.put, sA, sB, sC, i64_w, i32_w]
      rfl
     refine pure_ (i := 1) (N := some 99) (v := ?_) (a' := ?_) (bm 3 51) rfl rfl (any_of HT_.out (by kernel_rfl)) (fun _ _ _ h => h) (Or.inl ⟨by rfl, ?_⟩) ?_ ?_
     rotate_left
     ·intro w'
      go_simp
      with_reducible rfl
     rotate_left
     ·simp only [Act.put, sA, sB, sC, i64_w, i32_w]
      rfl
     refine pure_ (i := 2) (N := some 100) (v := ?_) (a' := ?_) (bm 7 51) rfl rfl (any_of HT_.out (by kernel_rfl)) (fun _ _ _ h => h) (Or.inl ⟨by rfl, ?_⟩) ?_ ?_
     rotate_left
     ·intro w'
      go_simp
      with_reducible rfl
     rotate_left
     ·simp only [Act.put, sA, sB, sC, i64_w, i32_w]
      rfl
     refine pure_ (i := 3) (N := some 101) (v := ?_) (a' := ?_) (bm 15 51) rfl rfl (any_of HT_.out (by kernel_rfl)) (fun _ _ _ h => h) (Or.inl ⟨by rfl, ?_⟩) ?_ ?_
     rotate_left
     ·intro w'
      go_simp
      with_reducible rfl
     rotate_left
     ·simp only [Act.put, sA, sB, sC, i64_w, i32_w]
      rfl
     refine pure_ (i := 4) (N := some 102) (v := ?_) (a' := ?_) (bm 31 51) rfl rfl (any_of HT_.out (by kernel_rfl)) (fun _ _ _ h => h) (Or.inl ⟨by rfl, ?_⟩) ?_ ?_
     rotate_left
     ·intro w'
      go_simp
      with_reducible rfl
     rotate_left
     ·simp only [Act.put, sA, sB, sC, i64_w, i32_w]
      rfl
     refine pure_ (i := 5) (N := some 103) (v := undef) (a' := ?_) (bm 63 51) rfl rfl (any_of HT_.out (by kernel_rfl)) (fun _ _ _ h => h) (Or.inr ⟨by rfl, rfl⟩) ?_ ?_
     rotate_left
     ·simp only [Act.put, sA, sB, sC, i64_w, i32_w]
      rfl
     refine pure_ (i := 6) (N := some 104) (v := undef) (a' := ?_) (bm 127 51) rfl rfl (any_of HT_.out (by kernel_rfl)) (fun _ _ _ h => h) (Or.inr ⟨by rfl, rfl⟩) ?_ ?_
     rotate_left
     ·simp only [Act.put, sA, sB, sC, i64_w, i32_w]
      rfl
     refine pure_ (i := 7) (N := some 105) (v := undef) (a' := ?_) (bm 255 51) rfl rfl (any_of HT_.out (by kernel_rfl)) (fun _ _ _ h => h) (Or.inr ⟨by rfl, rfl⟩) ?_ ?_
     rotate_left
     ·simp only [Act.put, sA, sB, sC, i64_w, i32_w]
      rfl
     refine pure_ (i := 8) (N := some 106) (v := undef) (a' := ?_) (bm 511 51) rfl rfl (any_of HT_.out (by kernel_rfl)) (fun _ _ _ h => h) (Or.inr ⟨by rfl, rfl⟩) ?_ ?_
     rotate_left
     ·simp only [Act.put, sA, sB, sC, i64_w, i32_w]
      rfl
     refine pure_ (i := 9) (N := some 107) (v := ?_) (a' := ?_) (bm 1023 51) rfl rfl (any_of HT_.out (by kernel_rfl)) (fun _ _ _ h => h) (Or.inl ⟨by rfl, ?_⟩) ?_ ?_
     rotate_left
     ·intro w'
      go_simp
      with_reducible rfl
     rotate_left
     ·simp only [Act.put, sA, sB, sC, i64_w, i32_w]
      rfl
     refine pure_ (i := 10) (N := some 108) (v := ?_) (a' := ?_) (bm 2047 51) rfl rfl (any_of HT_.out (by kernel_rfl)) (fun _ _ _ h => h) (Or.inl ⟨by rfl, ?_⟩) ?_ ?_
     rotate_left
     ·intro w'
      go_simp
      with_reducible rfl
     rotate_left
     ·simp only [Act.put, sA, sB, sC, i64_w, i32_w]
      rfl
     refine pure_ (i := 11) (N := some 109) (v := undef) (a' := ?_) (bm 4095 51) rfl rfl (any_of HT_.out (by kernel_rfl)) (fun _ _ _ h => h) (Or.inr ⟨by rfl, rfl⟩) ?_ ?_
     rotate_left
     ·simp only [Act.put, sA, sB, sC, i64_w, i32_w]
      rfl
     refine pure_ (i := 12) (N := some 110) (v := undef) (a' := ?_) (bm 8191 51) rfl rfl (any_of HT_.out (by kernel_rfl)) (fun _ _ _ h => h) (Or.inr ⟨by rfl, rfl⟩) ?_ ?_
     rotate_left
     ·simp only [Act.put, sA, sB, sC, i64_w, i32_w]
      rfl
     refine pure_ (i := 13) (N := some 111) (v := undef) (a' := ?_) (bm 16383 51) rfl rfl (any_of HT_.out (by kernel_rfl)) (fun _ _ _ h => h) (Or.inr ⟨by rfl, rfl⟩) ?_ ?_
     rotate_left
     ·simp only [Act.put, sA, sB, sC, i64_w, i32_w]
      rfl
     refine pure_ (i := 14) (N := some 112) (v := undef) (a' := ?_) (bm 32767 51) rfl rfl (any_of HT_.out (by kernel_rfl)) (fun _ _ _ h => h) (Or.inr ⟨by rfl, rfl⟩) ?_ ?_
     rotate_left
     ·simp only [Act.put, sA, sB, sC, i64_w, i32_w]
      rfl
     refine pure_ (i := 15) (N := some 113) (v := undef) (a' := ?_) (bm 65535 51) rfl rfl (any_of HT_.out (by kernel_rfl)) (fun _ _ _ h => h) (Or.inr ⟨by rfl, rfl⟩) ?_ ?_
     rotate_left
     ·simp only [Act.put, sA, sB, sC, i64_w, i32_w]
      rfl
     refine pure_ (i := 16) (N := some 114) (v := undef) (a' := ?_) (bm 131071 51) rfl rfl (any_of HT_.out (by kernel_rfl)) (fun _ _ _ h => h) (Or.inr ⟨by rfl, rfl⟩) ?_ ?_
     rotate_left
     ·simp only [Act.put, sA, sB, sC, i64_w, i32_w]
      rfl
     refine pure_ (i := 17) (N := some 115) (v := undef) (a' := ?_) (bm 262143 51) rfl rfl (any_of HT_.out (by kernel_rfl)) (fun _ _ _ h => h) (Or.inr ⟨by rfl, rfl⟩) ?_ ?_
     rotate_left
     ·simp only [Act.put, sA, sB, sC, i64_w, i32_w]
      rfl
     refine pure_ (i := 18) (N := some 116) (v := undef) (a' := ?_) (bm 524287 51) rfl rfl (any_of HT_.out (by kernel_rfl)) (fun _ _ _ h => h) (Or.inr ⟨by rfl, rfl⟩) ?_ ?_
     rotate_left
     ·simp only [Act.put, sA, sB, sC, i64_w, i32_w]
      rfl
     refine pure_ (i := 19) (N := some 117) (v := undef) (a' := ?_) (bm 1048575 51) rfl rfl (any_of HT_.out (by kernel_rfl)) (fun _ _ _ h => h) (Or.inr ⟨by rfl, rfl⟩) ?_ ?_
     rotate_left
     ·simp only [Act.put, sA, sB, sC, i64_w, i32_w]
      rfl
     refine pure_ (i := 20) (N := some 118) (v := ?_) (a' := ?_) (bm 2097151 51) rfl rfl (any_of HT_.out (by kernel_rfl)) (fun _ _ _ h => h) (Or.inl ⟨by rfl, ?_⟩) ?_ ?_
     rotate_left
     ·intro w'
      go_simp
      with_reducible rfl
     rotate_left
     ·simp only [Act.put, sA, sB, sC, i64_w, i32_w]
      rfl
     refine pure_ (i := 21) (N := some 119) (v := ?_) (a' := ?_) (bm 4194303 51) rfl rfl (any_of HT_.out (by kernel_rfl)) (fun _ _ _ h => h) (Or.inl ⟨by rfl, ?_⟩) ?_ ?_
     rotate_left
     ·intro w'
      go_simp
      with_reducible rfl
     rotate_left
     ·simp only [Act.put, sA, sB, sC, i64_w, i32_w]
      rfl
     refine pure_ (i := 22) (N := some 120) (v := undef) (a' := ?_) (bm 8388607 51) rfl rfl (any_of HT_.out (by kernel_rfl)) (fun _ _ _ h => h) (Or.inr ⟨by rfl, rfl⟩) ?_ ?_
     rotate_left
     ·simp only [Act.put, sA, sB, sC, i64_w, i32_w]
      rfl
     refine pure_ (i := 23) (N := some 121) (v := undef) (a' := ?_) (bm 16777215 51) rfl rfl (any_of HT_.out (by kernel_rfl)) (fun _ _ _ h => h) (Or.inr ⟨by rfl, rfl⟩) ?_ ?_
     rotate_left
     ·simp only [Act.put, sA, sB, sC, i64_w, i32_w]
      rfl
     refine pure_ (i := 24) (N := some 122) (v := undef) (a' := ?_) (bm 33554431 51) rfl rfl (any_of HT_.out (by kernel_rfl)) (fun _ _ _ h => h) (Or.inr ⟨by rfl, rfl⟩) ?_ ?_
     rotate_left
     ·simp only [Act.put, sA, sB, sC, i64_w, i32_w]
      rfl
     refine pure_ (i := 25) (N := some 123) (v := undef) (a' := ?_) (bm 67108863 51) rfl rfl (any_of HT_.out (by kernel_rfl)) (fun _ _ _ h => h) (Or.inr ⟨by rfl, rfl⟩) ?_ ?_
     rotate_left
     ·simp only [Act.put, sA, sB, sC, i64_w, i32_w]
      rfl
     refine pure_ (i := 26) (N := some 124) (v := undef) (a' := ?_) (bm 134217727 51) rfl rfl (any_of HT_.out (by kernel_rfl)) (fun _ _ _ h => h) (Or.inr ⟨by rfl, rfl⟩) ?_ ?_
     rotate_left
     ·simp only [Act.put, sA, sB, sC, i64_w, i32_w]
      rfl
     refine pure_ (i := 27) (N := some 125) (v := undef) (a' := ?_) (bm 268435455 51) rfl rfl (any_of HT_.out (by kernel_rfl)) (fun _ _ _ h => h) (Or.inr ⟨by rfl, rfl⟩) ?_ ?_
     rotate_left
     ·simp only [Act.put, sA, sB, sC, i64_w, i32_w]
      rfl
     refine pure_ (i := 28) (N := some 126) (v := undef) (a' := ?_) (bm 536870911 51) rfl rfl (any_of HT_.out (by kernel_rfl)) (fun _ _ _ h => h) (Or.inr ⟨by rfl, rfl⟩) ?_ ?_
     rotate_left
     ·simp only [Act.put, sA, sB, sC, i64_w, i32_w]
      rfl
     refine pure_ (i := 29) (N := some 127) (v := undef) (a' := ?_) (bm 1073741823 51) rfl rfl (any_of HT_.out (by kernel_rfl)) (fun _ _ _ h => h) (Or.inr ⟨by rfl, rfl⟩) ?_ ?_
     rotate_left
     ·simp only [Act.put, sA, sB, sC, i64_w, i32_w]
      rfl
     refine pure_ (i := 30) (N := some 128) (v := undef) (a' := ?_) (bm 2147483647 51) rfl rfl (any_of HT_.out (by kernel_rfl)) (fun _ _ _ h => h) (Or.inr ⟨by rfl, rfl⟩) ?_ ?_
     rotate_left
     ·simp only [Act.put, sA, sB, sC, i64_w, i32_w]
      rfl
     refine pure_ (i := 31) (N := some 129) (v := undef) (a' := ?_) (bm 4294967295 51) rfl rfl (any_of HT_.out (by kernel_rfl)) (fun _ _ _ h => h) (Or.inr ⟨by rfl, rfl⟩) ?_ ?_
     rotate_left
     ·simp only [Act.put, sA, sB, sC, i64_w, i32_w]
      rfl
     refine pure_ (i := 32) (N := some 130) (v := undef) (a' := ?_) (bm 8589934591 51) rfl rfl (any_of HT_.out (by kernel_rfl)) (fun _ _ _ h => h) (Or.inr ⟨by rfl, rfl⟩) ?_ ?_
     rotate_left
     ·simp only [Act.put, sA, sB, sC, i64_w, i32_w]
      rfl
     refine pure_ (i := 33) (N := some 131) (v := undef) (a' := ?_) (bm 17179869183 51) rfl rfl (any_of HT_.out (by kernel_rfl)) (fun _ _ _ h => h) (Or.inr ⟨by rfl, rfl⟩) ?_ ?_
     rotate_left
     ·simp only [Act.put, sA, sB, sC, i64_w, i32_w]
      rfl
     refine pure_ (i := 34) (N := some 132) (v := undef) (a' := ?_) (bm 34359738367 51) rfl rfl (any_of HT_.out (by kernel_rfl)) (fun _ _ _ h => h) (Or.inr ⟨by rfl, rfl⟩) ?_ ?_
     rotate_left
     ·simp only [Act.put, sA, sB, sC, i64_w, i32_w]
      rfl
     refine pure_ (i := 35) (N := some 133) (v := undef) (a' := ?_) (bm 68719476735 51) rfl rfl (any_of HT_.out (by kernel_rfl)) (fun _ _ _ h => h) (Or.inr ⟨by rfl, rfl⟩) ?_ ?_
     rotate_left
     ·simp only [Act.put, sA, sB, sC, i64_w, i32_w]
      rfl
     refine pure_ (i := 36) (N := some 134) (v := undef) (a' := ?_) (bm 137438953471 51) rfl rfl (any_of HT_.out (by kernel_rfl)) (fun _ _ _ h => h) (Or.inr ⟨by rfl, rfl⟩) ?_ ?_
     rotate_left
     ·simp only [Act.put, sA, sB, sC, i64_w, i32_w]
      rfl
     refine pure_ (i := 37) (N := some 135) (v := undef) (a' := ?_) (bm 274877906943 51) rfl rfl (any_of HT_.out (by kernel_rfl)) (fun _ _ _ h => h) (Or.inr ⟨by rfl, rfl⟩) ?_ ?_
     rotate_left
     ·simp only [Act.put, sA, sB, sC, i64_w, i32_w]
      rfl
     refine pure_ (i := 38) (N := some 136) (v := undef) (a' := ?_) (bm 549755813887 51) rfl rfl (any_of HT_.out (by kernel_rfl)) (fun _ _ _ h => h) (Or.inr ⟨by rfl, rfl⟩) ?_ ?_
     rotate_left
     ·simp only [Act.put, sA, sB, sC, i64_w, i32_w]
      rfl
     refine pure_ (i := 39) (N := some 137) (v := undef) (a' := ?_) (bm 1099511627775 51) rfl rfl (any_of HT_.out (by kernel_rfl)) (fun _ _ _ h => h) (Or.inr ⟨by rfl, rfl⟩) ?_ ?_
     rotate_left
     ·simp only [Act.put, sA, sB, sC, i64_w, i32_w]
      rfl
     refine pure_ (i := 40) (N := some 138) (v := undef) (a' := ?_) (bm 2199023255551 51) rfl rfl (any_of HT_.out (by kernel_rfl)) (fun _ _ _ h => h) (Or.inr ⟨by rfl, rfl⟩) ?_ ?_
     rotate_left
     ·simp only [Act.put, sA, sB, sC, i64_w, i32_w]
      rfl
     refine pure_ (i := 41) (N := some 139) (v := undef) (a' := ?_) (bm 4398046511103 51) rfl rfl (any_of HT_.out (by kernel_rfl)) (fun _ _ _ h => h) (Or.inr ⟨by rfl, rfl⟩) ?_ ?_
     rotate_left
     ·simp only [Act.put, sA, sB, sC, i64_w, i32_w]
      rfl
     refine pure_ (i := 42) (N := some 140) (v := undef) (a' := ?_) (bm 8796093022207 51) rfl rfl (any_of HT_.out (by kernel_rfl)) (fun _ _ _ h => h) (Or.inr ⟨by rfl, rfl⟩) ?_ ?_
     rotate_left
     ·simp only [Act.put, sA, sB, sC, i64_w, i32_w]
      rfl
     refine pure_ (i := 43) (N := some 141) (v := undef) (a' := ?_) (bm 17592186044415 51) rfl rfl (any_of HT_.out (by kernel_rfl)) (fun _ _ _ h => h) (Or.inr ⟨by rfl, rfl⟩) ?_ ?_
     rotate_left
     ·simp only [Act.put, sA, sB, sC, i64_w, i32_w]
      rfl
     refine pure_ (i := 44) (N := some 142) (v := undef) (a' := ?_) (bm 35184372088831 51) rfl rfl (any_of HT_.out (by kernel_rfl)) (fun _ _ _ h => h) (Or.inr ⟨by rfl, rfl⟩) ?_ ?_
     rotate_left
     ·simp only [Act.put, sA, sB, sC, i64_w, i32_w]
      rfl
     refine pure_ (i := 45) (N := some 143) (v := undef) (a' := ?_) (bm 70368744177663 51) rfl rfl (any_of HT_.out (by kernel_rfl)) (fun _ _ _ h => h) (Or.inr ⟨by rfl, rfl⟩) ?_ ?_
     rotate_left
     ·simp only [Act.put, sA, sB, sC, i64_w, i32_w]
      rfl
     refine pure_ (i := 46) (N := some 144) (v := undef) (a' := ?_) (bm 140737488355327 51) rfl rfl (any_of HT_.out (by kernel_rfl)) (fun _ _ _ h => h) (Or.inr ⟨by rfl, rfl⟩) ?_ ?_
     rotate_left
     ·simp only [Act.put, sA, sB, sC, i64_w, i32_w]
      rfl
     refine pure_ (i := 47) (N := some 145) (v := undef) (a' := ?_) (bm 281474976710655 51) rfl rfl (any_of HT_.out (by kernel_rfl)) (fun _ _ _ h => h) (Or.inr ⟨by rfl, rfl⟩) ?_ ?_
     rotate_left
     ·simp only [Act.put, sA, sB, sC, i64_w, i32_w]
      rfl
     refine pure_ (i := 48) (N := some 146) (v := undef) (a' := ?_) (bm 562949953421311 51) rfl rfl (any_of HT_.out (by kernel_rfl)) (fun _ _ _ h => h) (Or.inr ⟨by rfl, rfl⟩) ?_ ?_
     rotate_left
     ·simp only [Act.put, sA, sB, sC, i64_w, i32_w]
      rfl
     refine pure_ (i := 49) (N := some 147) (v := ?_) (a' := ?_) (bm 1125899906842623 51) rfl rfl (any_of HT_.out (by kernel_rfl)) (fun _ _ _ h => h) (Or.inl ⟨by rfl, ?_⟩) ?_ ?_
     rotate_left
     ·intro w'
      go_simp
      with_reducible rfl
     rotate_left
     ·simp only [Act.put, sA, sB, sC, i64_w, i32_w]
      rfl
     refine pure_ (i := 50) (N := some 97) (v := ?_) (a' := ?_) (bm 2251799813685247 51) rfl rfl (any_of HT_.out (by kernel_rfl)) (fun _ _ _ h => h) (Or.inl ⟨by rfl, ?_⟩) ?_ ?_
     rotate_left
     ·intro w'
      go_simp
      with_reducible rfl
     rotate_left
     ·simp only [Act.put, sA, sB, sC, i64_w, i32_w]
      rfl
     refine done_ (done_of HT_.out (by kernel_rfl)) ?_
     go_wp2
     go_meet
     case rel => exact ⟨rfl, HND, HBD⟩
    by_cases cj : j < b2.length
    rotate_left
    ·rw [if_neg (fun h => cj h.2.1)] at hq
     injection hq with hq
     subst hq
     have g1 : decide ((i : Int) < (a2.length : Int)) = true := decide_eq_true (by omega)
     have g1' : decide (i < a2.length) = true := decide_eq_true ci
     have g2 : decide ((j : Int) < (b2.length : Int)) = false := decide_eq_false (by omega)
     have g2' : decide (j < b2.length) = false := decide_eq_false cj
     clear ci cj
     refine start_ (n := 51) (S := fun w' => True) (ds := []) #[false, false, false, false, false, false, false, false, false, false, false, false, false, false, false, false, false, false, false, false, false, false, false, false, false, false, false, false, false, false, false, false, false, false, false, false, false, false, false, false, false, false, false, false, false, false, false, false, false, false, false] (by kernel_rfl) rfl rfl trivial (fun hHeld => ?_)
     refine with_tabW raw100.tab13 raw100.bits13 (fun HT_ HW_ => ?_)
     refine pure_ (i := 0) (N := some 98) (v := ?_) (a' := ?_) (bm 1 51) rfl rfl (any_of HT_.out (by kernel_rfl)) (fun _ _ _ h => h) (Or.inl ⟨by rfl, ?_⟩) ?_ ?_
     rotate_left
     ·intro w'
      go_simp
      with_reducible rfl
     rotate_left
     ·simp only [Act.put, sA, sB, sC, i64_w, i32_w]
      rfl
     refine pure_ (i := 1) (N := some 99) (v := ?_) (a' := ?_) (bm 3 51) rfl rfl (any_of HT_.out (by kernel_rfl)) (fun _ _ _ h => h) (Or.inl ⟨by rfl, ?_⟩) ?_ ?_
     rotate_left
     ·intro w'
      go_simp
      with_reducible rfl
     rotate_left
     ·simp only [Act.put, sA, sB, sC, i64_w, i32_w]
      rfl
     refine pure_ (i := 2) (N := some 100) (v := ?_) (a' := ?_) (bm 7 51) rfl rfl (any_of HT_.out (by kernel_rfl)) (fun _ _ _ h => h) (Or.inl ⟨by rfl, ?_⟩) ?_ ?_
     rotate_left
     ·intro w'
      go_simp
      with_reducible rfl
     rotate_left
     ·simp only [Act.put, sA, sB, sC, i64_w, i32_w]
      rfl
     refine pure_ (i := 3) (N := some 101) (v := ?_) (a' := ?_) (bm 15 51) rfl rfl (any_of HT_.out (by kernel_rfl)) (fun _ _ _ h => h) (Or.inl ⟨by rfl, ?_⟩) ?_ ?_
     rotate_left
     ·intro w'
      go_simp
      with_reducible rfl
     rotate_left
     ·simp only [Act.put, sA, sB, sC, i64_w, i32_w]
      rfl
     refine pure_ (i := 4) (N := some 102) (v := ?_) (a' := ?_) (bm 31 51) rfl rfl (any_of HT_.out (by kernel_rfl)) (fun _ _ _ h => h) (Or.inl ⟨by rfl, ?_⟩) ?_ ?_
     rotate_left
     ·intro w'
      go_simp
      with_reducible rfl
     rotate_left
     ·simp only [Act.put, sA, sB, sC, i64_w, i32_w]
      rfl
     refine pure_ (i := 5) (N := some 103) (v := ?_) (a' := ?_) (bm 63 51) rfl rfl (any_of HT_.out (by kernel_rfl)) (fun _ _ _ h => h) (Or.inl ⟨by rfl, ?_⟩) ?_ ?_
     rotate_left
     ·intro w'
      go_simp
      with_reducible rfl
     rotate_left
     ·simp only [Act.put, sA, sB, sC, i64_w, i32_w]
      rfl
     refine pure_ (i := 6) (N := some 104) (v := ?_) (a' := ?_) (bm 127 51) rfl rfl (any_of HT_.out (by kernel_rfl)) (fun _ _ _ h => h) (Or.inl ⟨by rfl, ?_⟩) ?_ ?_
     rotate_left
     ·intro w'
      go_simp
      with_reducible rfl
     rotate_left
     ·simp only [Act.put, sA, sB, sC, i64_w, i32_w]
      rfl
     refine pure_ (i := 7) (N := some 105) (v := ?_) (a' := ?_) (bm 255 51) rfl rfl (any_of HT_.out (by kernel_rfl)) (fun _ _ _ h => h) (Or.inl ⟨by rfl, ?_⟩) ?_ ?_
     rotate_left
     ·intro w'
      go_simp
      with_reducible rfl
     rotate_left
     ·simp only [Act.put, sA, sB, sC, i64_w, i32_w]
      rfl
     refine pure_ (i := 8) (N := some 106) (v := ?_) (a' := ?_) (bm 511 51) rfl rfl (any_of HT_.out (by kernel_rfl)) (fun _ _ _ h => h) (Or.inl ⟨by rfl, ?_⟩) ?_ ?_
     rotate_left
     ·intro w'
      go_simp
      with_reducible rfl
     rotate_left
     ·simp only [Act.put, sA, sB, sC, i64_w, i32_w]
      rfl
     refine pure_ (i := 9) (N := some 107) (v := ?_) (a' := ?_) (bm 1023 51) rfl rfl (any_of HT_.out (by kernel_rfl)) (fun _ _ _ h => h) (Or.inl ⟨by rfl, ?_⟩) ?_ ?_
     rotate_left
     ·intro w'
      go_simp
      with_reducible rfl
     rotate_left
     ·simp only [Act.put, sA, sB, sC, i64_w, i32_w]
      rfl
     refine pure_ (i := 10) (N := some 108) (v := ?_) (a' := ?_) (bm 2047 51) rfl rfl (any_of HT_.out (by kernel_rfl)) (fun _ _ _ h => h) (Or.inl ⟨by rfl, ?_⟩) ?_ ?_
     rotate_left
     ·intro w'
      go_simp
      with_reducible rfl
     rotate_left
     ·simp only [Act.put, sA, sB, sC, i64_w, i32_w]
      rfl
     refine pure_ (i := 11) (N := some 109) (v := undef) (a' := ?_) (bm 4095 51) rfl rfl (any_of HT_.out (by kernel_rfl)) (fun _ _ _ h => h) (Or.inr ⟨by rfl, rfl⟩) ?_ ?_
     rotate_left
     ·simp only [Act.put, sA, sB, sC, i64_w, i32_w]
      rfl
     refine pure_ (i := 12) (N := some 110) (v := undef) (a' := ?_) (bm 8191 51) rfl rfl (any_of HT_.out (by kernel_rfl)) (fun _ _ _ h => h) (Or.inr ⟨by rfl, rfl⟩) ?_ ?_
     rotate_left
     ·simp only [Act.put, sA, sB, sC, i64_w, i32_w]
      rfl
     refine pure_ (i := 13) (N := some 111) (v := undef) (a' := ?_) (bm 16383 51) rfl rfl (any_of HT_.out (by kernel_rfl)) (fun _ _ _ h => h) (Or.inr ⟨by rfl, rfl⟩) ?_ ?_
     rotate_left
     ·simp only [Act.put, sA, sB, sC, i64_w, i32_w]
      rfl
     refine pure_ (i := 14) (N := some 112) (v := undef) (a' := ?_) (bm 32767 51) rfl rfl (any_of HT_.out (by kernel_rfl)) (fun _ _ _ h => h) (Or.inr ⟨by rfl, rfl⟩) ?_ ?_
     rotate_left
     ·simp only [Act.put, sA, sB, sC, i64_w, i32_w]
      rfl
     refine pure_ (i := 15) (N := some 113) (v := undef) (a' := ?_) (bm 65535 51) rfl rfl (any_of HT_.out (by kernel_rfl)) (fun _ _ _ h => h) (Or.inr ⟨by rfl, rfl⟩) ?_ ?_
     rotate_left
     ·simp only [Act.put, sA, sB, sC, i64_w, i32_w]
      rfl
     refine pure_ (i := 16) (N := some 114) (v := undef) (a' := ?_) (bm 131071 51) rfl rfl (any_of HT_.out (by kernel_rfl)) (fun _ _ _ h => h) (Or.inr ⟨by rfl, rfl⟩) ?_ ?_
     rotate_left
     ·simp only [Act.put, sA, sB, sC, i64_w, i32_w]
      rfl
     refine pure_ (i := 17) (N := some 115) (v := undef) (a' := ?_) (bm 262143 51) rfl rfl (any_of HT_.out (by kernel_rfl)) (fun _ _ _ h => h) (Or.inr ⟨by rfl, rfl⟩) ?_ ?_
     rotate_left
     ·simp only [Act.put, sA, sB, sC, i64_w, i32_w]
      rfl
     refine pure_ (i := 18) (N := some 116) (v := undef) (a' := ?_) (bm 524287 51) rfl rfl (any_of HT_.out (by kernel_rfl)) (fun _ _ _ h => h) (Or.inr ⟨by rfl, rfl⟩) ?_ ?_
     rotate_left
     ·simp only [Act.put, sA, sB, sC, i64_w, i32_w]
      rfl
     refine pure_ (i := 19) (N := some 117) (v := undef) (a' := ?_) (bm 1048575 51) rfl rfl (any_of HT_.out (by kernel_rfl)) (fun _ _ _ h => h) (Or.inr ⟨by rfl, rfl⟩) ?_ ?_
     rotate_left
     ·simp only [Act.put, sA, sB, sC, i64_w, i32_w]
      rfl
     refine pure_ (i := 20) (N := some 118) (v := ?_) (a' := ?_) (bm 2097151 51) rfl rfl (any_of HT_.out (by kernel_rfl)) (fun _ _ _ h => h) (Or.inl ⟨by rfl, ?_⟩) ?_ ?_
     rotate_left
     ·intro w'
      go_simp
      with_reducible rfl
     rotate_left
     ·simp only [Act.put, sA, sB, sC, i64_w, i32_w]
      rfl
     refine pure_ (i := 21) (N := some 119) (v := ?_) (a' := ?_) (bm 4194303 51) rfl rfl (any_of HT_.out (by kernel_rfl)) (fun _ _ _ h => h) (Or.inl ⟨by rfl, ?_⟩) ?_ ?_
     rotate_left
     ·intro w'
      go_simp
      with_reducible rfl
     rotate_left
     ·simp only [Act.put, sA, sB, sC, i64_w, i32_w]
      rfl
     refine pure_ (i := 22) (N := some 120) (v := undef) (a' := ?_) (bm 8388607 51) rfl rfl (any_of HT_.out (by kernel_rfl)) (fun _ _ _ h => h) (Or.inr ⟨by rfl, rfl⟩) ?_ ?_
     rotate_left
     ·simp only [Act.put, sA, sB, sC, i64_w, i32_w]
      rfl
     refine pure_ (i := 23) (N := some 121) (v := undef) (a' := ?_) (bm 16777215 51) rfl rfl (any_of HT_.out (by kernel_rfl)) (fun _ _ _ h => h) (Or.inr ⟨by rfl, rfl⟩) ?_ ?_
     rotate_left
     ·simp only [Act.put, sA, sB, sC, i64_w, i32_w]
      rfl
     refine pure_ (i := 24) (N := some 122) (v := undef) (a' := ?_) (bm 33554431 51) rfl rfl (any_of HT_.out (by kernel_rfl)) (fun _ _ _ h => h) (Or.inr ⟨by rfl, rfl⟩) ?_ ?_
     rotate_left
     ·simp only [Act.put, sA, sB, sC, i64_w, i32_w]
      rfl
     refine pure_ (i := 25) (N := some 123) (v := undef) (a' := ?_) (bm 67108863 51) rfl rfl (any_of HT_.out (by kernel_rfl)) (fun _ _ _ h => h) (Or.inr ⟨by rfl, rfl⟩) ?_ ?_
     rotate_left
     ·simp only [Act.put, sA, sB, sC, i64_w, i32_w]
      rfl
     refine pure_ (i := 26) (N := some 124) (v := undef) (a' := ?_) (bm 134217727 51) rfl rfl (any_of HT_.out (by kernel_rfl)) (fun _ _ _ h => h) (Or.inr ⟨by rfl, rfl⟩) ?_ ?_
     rotate_left
     ·simp only [Act.put, sA, sB, sC, i64_w, i32_w]
      rfl
     refine pure_ (i := 27) (N := some 125) (v := undef) (a' := ?_) (bm 268435455 51) rfl rfl (any_of HT_.out (by kernel_rfl)) (fun _ _ _ h => h) (Or.inr ⟨by rfl, rfl⟩) ?_ ?_
     rotate_left
     ·simp only [Act.put, sA, sB, sC, i64_w, i32_w]
      rfl
     refine pure_ (i := 28) (N := some 126) (v := undef) (a' := ?_) (bm 536870911 51) rfl rfl (any_of HT_.out (by kernel_rfl)) (fun _ _ _ h => h) (Or.inr ⟨by rfl, rfl⟩) ?_ ?_
     rotate_left
     ·simp only [Act.put, sA, sB, sC, i64_w, i32_w]
      rfl
     refine pure_ (i := 29) (N := some 127) (v := undef) (a' := ?_) (bm 1073741823 51) rfl rfl (any_of HT_.out (by kernel_rfl)) (fun _ _ _ h => h) (Or.inr ⟨by rfl, rfl⟩) ?_ ?_
     rotate_left
     ·simp only [Act.put, sA, sB, sC, i64_w, i32_w]
      rfl
     refine pure_ (i := 30) (N := some 128) (v := undef) (a' := ?_) (bm 2147483647 51) rfl rfl (any_of HT_.out (by kernel_rfl)) (fun _ _ _ h => h) (Or.inr ⟨by rfl, rfl⟩) ?_ ?_
     rotate_left
     ·simp only [Act.put, sA, sB, sC, i64_w, i32_w]
      rfl
     refine pure_ (i := 31) (N := some 129) (v := undef) (a' := ?_) (bm 4294967295 51) rfl rfl (any_of HT_.out (by kernel_rfl)) (fun _ _ _ h => h) (Or.inr ⟨by rfl, rfl⟩) ?_ ?_
     rotate_left
     ·simp only [Act.put, sA, sB, sC, i64_w, i32_w]
      rfl
     refine pure_ (i := 32) (N := some 130) (v := undef) (a' := ?_) (bm 8589934591 51) rfl rfl (any_of HT_.out (by kernel_rfl)) (fun _ _ _ h => h) (Or.inr ⟨by rfl, rfl⟩) ?_ ?_
     rotate_left
     ·simp only [Act.put, sA, sB, sC, i64_w, i32_w]
      rfl
     refine pure_ (i := 33) (N := some 131) (v := undef) (a' := ?_) (bm 17179869183 51) rfl rfl (any_of HT_.out (by kernel_rfl)) (fun _ _ _ h => h) (Or.inr ⟨by rfl, rfl⟩) ?_ ?_
     rotate_left
     ·simp only [Act.put, sA, sB, sC, i64_w, i32_w]
      rfl
     refine pure_ (i := 34) (N := some 132) (v := undef) (a' := ?_) (bm 34359738367 51) rfl rfl (any_of HT_.out (by kernel_rfl)) (fun _ _ _ h => h) (Or.inr ⟨by rfl, rfl⟩) ?_ ?_
     rotate_left
     ·simp only [Act.put, sA, sB, sC, i64_w, i32_w]
      rfl
     refine pure_ (i := 35) (N := some 133) (v := undef) (a' := ?_) (bm 68719476735 51) rfl rfl (any_of HT_.out (by kernel_rfl)) (fun _ _ _ h => h) (Or.inr ⟨by rfl, rfl⟩) ?_ ?_
     rotate_left
     ·simp only [Act.put, sA, sB, sC, i64_w, i32_w]
      rfl
     refine pure_ (i := 36) (N := some 134) (v := undef) (a' := ?_) (bm 137438953471 51) rfl rfl (any_of HT_.out (by kernel_rfl)) (fun _ _ _ h => h) (Or.inr ⟨by rfl, rfl⟩) ?_ ?_
     rotate_left
     ·simp only [Act.put, sA, sB, sC, i64_w, i32_w]
      rfl
     refine pure_ (i := 37) (N := some 135) (v := undef) (a' := ?_) (bm 274877906943 51) rfl rfl (any_of HT_.out (by kernel_rfl)) (fun _ _ _ h => h) (Or.inr ⟨by rfl, rfl⟩) ?_ ?_
     rotate_left
     ·simp only [Act.put, sA, sB, sC, i64_w, i32_w]
      rfl
     refine pure_ (i := 38) (N := some 136) (v := undef) (a' := ?_) (bm 549755813887 51) rfl rfl (any_of HT_.out (by kernel_rfl)) (fun _ _ _ h => h) (Or.inr ⟨by rfl, rfl⟩) ?_ ?_
     rotate_left
     ·simp only [Act.put, sA, sB, sC, i64_w, i32_w]
      rfl
     refine pure_ (i := 39) (N := some 137) (v := undef) (a' := ?_) (bm 1099511627775 51) rfl rfl (any_of HT_.out (by kernel_rfl)) (fun _ _ _ h => h) (Or.inr ⟨by rfl, rfl⟩) ?_ ?_
     rotate_left
     ·simp only [Act.put, sA, sB, sC, i64_w, i32_w]
      rfl
     refine pure_ (i := 40) (N := some 138) (v := undef) (a' := ?_) (bm 2199023255551 51) rfl rfl (any_of HT_.out (by kernel_rfl)) (fun _ _ _ h => h) (Or.inr ⟨by rfl, rfl⟩) ?_ ?_
     rotate_left
     ·simp only [Act.put, sA, sB, sC, i64_w, i32_w]
      rfl
     refine pure_ (i := 41) (N := some 139) (v := undef) (a' := ?_) (bm 4398046511103 51) rfl rfl (any_of HT_.out (by kernel_rfl)) (fun _ _ _ h => h) (Or.inr ⟨by rfl, rfl⟩) ?_ ?_
     rotate_left
     ·simp only [Act.put, sA, sB, sC, i64_w, i32_w]
      rfl
     refine pure_ (i := 42) (N := some 140) (v := undef) (a' := ?_) (bm 8796093022207 51) rfl rfl (any_of HT_.out (by kernel_rfl)) (fun _ _ _ h => h) (Or.inr ⟨by rfl, rfl⟩) ?_ ?_
     rotate_left
     ·simp only [Act.put, sA, sB, sC, i64_w, i32_w]
      rfl
     refine pure_ (i := 43) (N := some 141) (v := undef) (a' := ?_) (bm 17592186044415 51) rfl rfl (any_of HT_.out (by kernel_rfl)) (fun _ _ _ h => h) (Or.inr ⟨by rfl, rfl⟩) ?_ ?_
     rotate_left
     ·simp only [Act.put, sA, sB, sC, i64_w, i32_w]
      rfl
     refine pure_ (i := 44) (N := some 142) (v := undef) (a' := ?_) (bm 35184372088831 51) rfl rfl (any_of HT_.out (by kernel_rfl)) (fun _ _ _ h => h) (Or.inr ⟨by rfl, rfl⟩) ?_ ?_
     rotate_left
     ·simp only [Act.put, sA, sB, sC, i64_w, i32_w]
      rfl
     refine pure_ (i := 45) (N := some 143) (v := undef) (a' := ?_) (bm 70368744177663 51) rfl rfl (any_of HT_.out (by kernel_rfl)) (fun _ _ _ h => h) (Or.inr ⟨by rfl, rfl⟩) ?_ ?_
     rotate_left
     ·simp only [Act.put, sA, sB, sC, i64_w, i32_w]
      rfl
     refine pure_ (i := 46) (N := some 144) (v := undef) (a' := ?_) (bm 140737488355327 51) rfl rfl (any_of HT_.out (by kernel_rfl)) (fun _ _ _ h => h) (Or.inr ⟨by rfl, rfl⟩) ?_ ?_
     rotate_left
     ·simp only [Act.put, sA, sB, sC, i64_w, i32_w]
      rfl
     refine pure_ (i := 47) (N := some 145) (v := undef) (a' := ?_) (bm 281474976710655 51) rfl rfl (any_of HT_.out (by kernel_rfl)) (fun _ _ _ h => h) (Or.inr ⟨by rfl, rfl⟩) ?_ ?_
     rotate_left
     ·simp only [Act.put, sA, sB, sC, i64_w, i32_w]
      rfl
     refine pure_ (i := 48) (N := some 146) (v := undef) (a' := ?_) (bm 562949953421311 51) rfl rfl (any_of HT_.out (by kernel_rfl)) (fun _ _ _ h => h) (Or.inr ⟨by rfl, rfl⟩) ?_ ?_
     rotate_left
     ·simp only [Act.put, sA, sB, sC, i64_w, i32_w]
      rfl
     refine pure_ (i := 49) (N := some 147) (v := ?_) (a' := ?_) (bm 1125899906842623 51) rfl rfl (any_of HT_.out (by kernel_rfl)) (fun _ _ _ h => h) (Or.inl ⟨by rfl, ?_⟩) ?_ ?_
     rotate_left
     ·intro w'
      go_simp
      with_reducible rfl
     rotate_left
     ·simp only [Act.put, sA, sB, sC, i64_w, i32_w]
      rfl
     refine pure_ (i := 50) (N := some 97) (v := ?_) (a' := ?_) (bm 2251799813685247 51) rfl rfl (any_of HT_.out (by kernel_rfl)) (fun _ _ _ h => h) (Or.inl ⟨by rfl, ?_⟩) ?_ ?_
     rotate_left
     ·intro w'
      go_simp
      with_reducible rfl
     rotate_left
     ·simp only [Act.put, sA, sB, sC, i64_w, i32_w]
      rfl
     refine done_ (done_of HT_.out (by kernel_rfl)) ?_
     go_wp2
     go_meet
     case rel => exact ⟨rfl, HND, HBD⟩
    have g1 : decide ((i : Int) < (a2.length : Int)) = true := decide_eq_true (by omega)
    have g1' : decide (i < a2.length) = true := decide_eq_true ci
    have g2 : decide ((j : Int) < (b2.length : Int)) = true := decide_eq_true (by omega)
    have g2' : decide (j < b2.length) = true := decide_eq_true cj
    obtain ⟨ad, A7, c7, ea, hx0, hx1, hx2, hl2, hg2⟩ := at_T26 HA3.out.1 (i : Int) (by omega) (by omega)
    obtain ⟨bd, B7, d7, eb, hy0, hy1, hy2, hk2, hj2⟩ := at_T26 HB3.out.1 (j : Int) (by omega) (by omega)
    subst ea
    subst eb
    rw [← HX.out] at hx0 hx1 hx2 hl2 hg2
    rw [← HY.out] at hy0 hy1 hy2 hk2 hj2
    simp only [Int.toNat_natCast] at hx0 hx1 hx2 hy0 hy1 hy2
    have HLX := Aside0.mk hl2
    have HLY := Aside0.mk hk2
    have HGX := Aside0.mk hg2
    have HGY := Aside0.mk hj2
    clear hl2 hk2 hg2 hj2
    by_cases ca : Alk x y
    rotate_left
    ·rw [if_neg (fun h => ca h.2.2)] at hq
     injection hq with hq
     subst hq
     have HAK := Aside0.mk ((alike_is x y).trans (congrArg some (decide_eq_false ca)))
     have q1 : (i : Int) < (a2.length : Int) := by omega
     have q2 : (j : Int) < (b2.length : Int) := by omega
     clear ci cj ca HX HY
     refine start_ (n := 51) (S := fun w' => w'.cell? (ad.add (i * 3)) = some (.int .i64 x.f0) ∧ w'.cell? ⟨(ad.add (i * 3)).block, (ad.add (i * 3)).off + 1, none⟩ = some (.int .i64 x.f1) ∧ w'.cell? ⟨(ad.add (i * 3)).block, (ad.add (i * 3)).off + 2, none⟩ = some (.slice A7 x.f2.length c7) ∧ w'.cell? (bd.add (j * 3)) = some (.int .i64 y.f0) ∧ w'.cell? ⟨(bd.add (j * 3)).block, (bd.add (j * 3)).off + 1, none⟩ = some (.int .i64 y.f1) ∧ w'.cell? ⟨(bd.add (j * 3)).block, (bd.add (j * 3)).off + 2, none⟩ = some (.slice B7 y.f2.length d7)) (ds := []) #[false, false, false, false, false, false, false, false, false, false, false, false, false, false, false, false, false, false, false, false, false, false, false, false, false, false, false, false, false, false, false, false, false, false, false, false, false, false, false, false, false, false, false, false, false, false, false, false, false, false, false] (by kernel_rfl) rfl rfl ⟨((HBD.out.cell (World.block_lt_of_cell? w3 _ hx0)).trans hx0), ((HBD.out.cell (World.block_lt_of_cell? w3 _ hx1)).trans hx1), ((HBD.out.cell (World.block_lt_of_cell? w3 _ hx2)).trans hx2), ((HBD.out.cell (World.block_lt_of_cell? w3 _ hy0)).trans hy0), ((HBD.out.cell (World.block_lt_of_cell? w3 _ hy1)).trans hy1), ((HBD.out.cell (World.block_lt_of_cell? w3 _ hy2)).trans hy2)⟩ (fun hHeld => ?_)
     refine with_tabW raw100.tab13 raw100.bits13 (fun HT_ HW_ => ?_)
     refine pure_ (i := 0) (N := some 98) (v := ?_) (a' := ?_) (bm 1 51) rfl rfl (any_of HT_.out (by kernel_rfl)) (fun _ _ _ h => h) (Or.inl ⟨by rfl, ?_⟩) ?_ ?_
     rotate_left
     ·intro w'
      go_simp
      with_reducible rfl
     rotate_left
     ·simp only [Act.put, sA, sB, sC, i64_w, i32_w]
      rfl
     refine pure_ (i := 1) (N := some 99) (v := ?_) (a' := ?_) (bm 3 51) rfl rfl (any_of HT_.out (by kernel_rfl)) (fun _ _ _ h => h) (Or.inl ⟨by rfl, ?_⟩) ?_ ?_
     rotate_left
     ·intro w'
      go_simp
      with_reducible rfl
     rotate_left
     ·simp only [Act.put, sA, sB, sC, i64_w, i32_w]
      rfl
     refine pure_ (i := 2) (N := some 100) (v := ?_) (a' := ?_) (bm 7 51) rfl rfl (any_of HT_.out (by kernel_rfl)) (fun _ _ _ h => h) (Or.inl ⟨by rfl, ?_⟩) ?_ ?_
     rotate_left
     ·intro w'
      go_simp
      with_reducible rfl
     rotate_left
     ·simp only [Act.put, sA, sB, sC, i64_w, i32_w]
      rfl
     refine pure_ (i := 3) (N := some 101) (v := ?_) (a' := ?_) (bm 15 51) rfl rfl (any_of HT_.out (by kernel_rfl)) (fun _ _ _ h => h) (Or.inl ⟨by rfl, ?_⟩) ?_ ?_
     rotate_left
     ·intro w'
      go_simp
      with_reducible rfl
     rotate_left
     ·simp only [Act.put, sA, sB, sC, i64_w, i32_w]
      rfl
     refine pure_ (i := 4) (N := some 102) (v := ?_) (a' := ?_) (bm 31 51) rfl rfl (any_of HT_.out (by kernel_rfl)) (fun _ _ _ h => h) (Or.inl ⟨by rfl, ?_⟩) ?_ ?_
     rotate_left
     ·intro w'
      go_simp
      with_reducible rfl
     rotate_left
     ·simp only [Act.put, sA, sB, sC, i64_w, i32_w]
      rfl
     refine pure_ (i := 5) (N := some 103) (v := ?_) (a' := ?_) (bm 63 51) rfl rfl (any_of HT_.out (by kernel_rfl)) (fun _ _ _ h => h) (Or.inl ⟨by rfl, ?_⟩) ?_ ?_
     rotate_left
     ·intro w'
      go_simp
      with_reducible rfl
     rotate_left
     ·simp only [Act.put, sA, sB, sC, i64_w, i32_w]
      rfl
     refine pure_ (i := 6) (N := some 104) (v := ?_) (a' := ?_) (bm 127 51) rfl rfl (any_of HT_.out (by kernel_rfl)) (fun _ _ _ h => h) (Or.inl ⟨by rfl, ?_⟩) ?_ ?_
     rotate_left
     ·intro w'
      go_simp
      with_reducible rfl
     rotate_left
     ·simp only [Act.put, sA, sB, sC, i64_w, i32_w]
      rfl
     refine pure_ (i := 7) (N := some 105) (v := ?_) (a' := ?_) (bm 255 51) rfl rfl (any_of HT_.out (by kernel_rfl)) (fun _ _ _ h => h) (Or.inl ⟨by rfl, ?_⟩) ?_ ?_
     rotate_left
     ·intro w'
      go_simp
      with_reducible rfl
     rotate_left
     ·simp only [Act.put, sA, sB, sC, i64_w, i32_w]
      rfl
     refine pure_ (i := 8) (N := some 106) (v := ?_) (a' := ?_) (bm 511 51) rfl rfl (any_of HT_.out (by kernel_rfl)) (fun _ _ _ h => h) (Or.inl ⟨by rfl, ?_⟩) ?_ ?_
     rotate_left
     ·intro w'
      go_simp
      with_reducible rfl
     rotate_left
     ·simp only [Act.put, sA, sB, sC, i64_w, i32_w]
      rfl
     refine pure_ (i := 9) (N := some 107) (v := ?_) (a' := ?_) (bm 1023 51) rfl rfl (any_of HT_.out (by kernel_rfl)) (fun _ _ _ h => h) (Or.inl ⟨by rfl, ?_⟩) ?_ ?_
     rotate_left
     ·intro w'
      go_simp
      with_reducible rfl
     rotate_left
     ·simp only [Act.put, sA, sB, sC, i64_w, i32_w]
      rfl
     refine pure_ (i := 10) (N := some 108) (v := ?_) (a' := ?_) (bm 2047 51) rfl rfl (any_of HT_.out (by kernel_rfl)) (fun _ _ _ h => h) (Or.inl ⟨by rfl, ?_⟩) ?_ ?_
     rotate_left
     ·intro w'
      go_simp
      with_reducible rfl
     rotate_left
     ·simp only [Act.put, sA, sB, sC, i64_w, i32_w]
      rfl
     refine pure_ (i := 11) (N := some 109) (v := ?_) (a' := ?_) (bm 4095 51) rfl rfl (any_of HT_.out (by kernel_rfl)) (fun _ _ _ h => h) (Or.inl ⟨by rfl, ?_⟩) ?_ ?_
     rotate_left
     ·intro w'
      go_simp
      with_reducible rfl
     rotate_left
     ·simp only [Act.put, sA, sB, sC, i64_w, i32_w]
      rfl
     refine pure_ (i := 12) (N := some 110) (v := ?_) (a' := ?_) (bm 8191 51) rfl rfl (any_of HT_.out (by kernel_rfl)) (fun _ _ _ h => h) (Or.inl ⟨by rfl, ?_⟩) ?_ ?_
     rotate_left
     ·intro w'
      go_simp
      with_reducible rfl
     rotate_left
     ·simp only [Act.put, sA, sB, sC, i64_w, i32_w]
      rfl
     refine pure_ (i := 13) (N := some 111) (v := ?_) (a' := ?_) (bm 16383 51) rfl rfl (any_of HT_.out (by kernel_rfl)) (fun _ _ _ h => h) (Or.inl ⟨by rfl, ?_⟩) ?_ ?_
     rotate_left
     ·intro w'
      go_simp
      with_reducible rfl
     rotate_left
     ·simp only [Act.put, sA, sB, sC, i64_w, i32_w]
      rfl
     refine pure_ (i := 15) (N := some 113) (v := ?_) (a' := ?_) (bm 49151 51) rfl rfl (any_of HT_.out (by kernel_rfl)) (fun _ _ _ h => h) (Or.inl ⟨by rfl, ?_⟩) ?_ ?_
     rotate_left
     ·intro w'
      go_simp
      with_reducible rfl
     rotate_left
     ·simp only [Act.put, sA, sB, sC, i64_w, i32_w]
      rfl
     refine pure_ (i := 16) (N := some 114) (v := ?_) (a' := ?_) (bm 114687 51) rfl rfl (any_of HT_.out (by kernel_rfl)) (fun _ _ _ h => h) (Or.inl ⟨by rfl, ?_⟩) ?_ ?_
     rotate_left
     ·intro w'
      go_simp
      with_reducible rfl
     rotate_left
     ·simp only [Act.put, sA, sB, sC, i64_w, i32_w]
      rfl
     refine pure_ (i := 17) (N := some 115) (v := ?_) (a' := ?_) (bm 245759 51) rfl rfl (any_of HT_.out (by kernel_rfl)) (fun _ _ _ h => h) (Or.inl ⟨by rfl, ?_⟩) ?_ ?_
     rotate_left
     ·intro w'
      go_simp
      with_reducible rfl
     rotate_left
     ·simp only [Act.put, sA, sB, sC, i64_w, i32_w]
      rfl
     refine take_ (i := 14) (N := some 112) (v := ?_) (a' := ?_) (bm 262143 51) rfl rfl (take_ofW HT_.out HW_.out (by kernel_rfl)) (fun _ _ _ h => h) (Or.inl ⟨by rfl, ?_⟩) hHeld ?_ ?_
     rotate_left
     ·rintro w' ⟨s0, s1, s2, s3, s4, s5⟩
      go_simp
      with_reducible rfl
     rotate_left
     ·simp only [Act.put, sA, sB, sC, i64_w, i32_w]
      rfl
     refine take_ (i := 18) (N := some 116) (v := ?_) (a' := ?_) (bm 524287 51) rfl rfl (take_ofW HT_.out HW_.out (by kernel_rfl)) (fun _ _ _ h => h) (Or.inl ⟨by rfl, ?_⟩) hHeld ?_ ?_
     rotate_left
     ·rintro w' ⟨s0, s1, s2, s3, s4, s5⟩
      go_simp
      with_reducible rfl
     rotate_left
     ·simp only [Act.put, sA, sB, sC, i64_w, i32_w]
      rfl
     refine one_ (i := 19) (N := some 117) (bm 1048575 51) rfl rfl (one_of HT_.out (by kernel_rfl)) (by decide) (fun K hK => ?_)
     refine goes_ Try.func133 (by kernel_rfl) rfl #[.agg #[.int .i64 x.f0, .int .i64 x.f1, .slice A7 x.f2.length c7], .agg #[.int .i64 y.f0, .int .i64 y.f1, .slice B7 y.f2.length d7]] (by rfl) rfl rfl (by simp only [List.map_toArray, List.map_cons, List.map_nil]; rfl) ?_
     with_reducible refine (diff_alike.calls x.f0 x.f1 A7 c7 x.f2 y.f0 y.f1 B7 d7 y.f2 false _ (Kd.C_below HGX.out HBD.out) HLX.out (Kd.C_below HGY.out HBD.out) HLY.out HAK.out).mono ?_
     rintro e w9 ⟨rfl, hb9⟩
     refine ⟨_, rfl, ?_⟩
     have HB9 := Aside0.mk (below_step HBD.out hb9)
     have HN9 := Aside0.mk (Kd.N_below HND.out hb9)
     clear hb9
     refine hK.out _ _ ⟨((HB9.out.cell (World.block_lt_of_cell? w3 _ hx0)).trans hx0), ((HB9.out.cell (World.block_lt_of_cell? w3 _ hx1)).trans hx1), ((HB9.out.cell (World.block_lt_of_cell? w3 _ hx2)).trans hx2), ((HB9.out.cell (World.block_lt_of_cell? w3 _ hy0)).trans hy0), ((HB9.out.cell (World.block_lt_of_cell? w3 _ hy1)).trans hy1), ((HB9.out.cell (World.block_lt_of_cell? w3 _ hy2)).trans hy2)⟩ (fun hHeld => ?_)
     clear hK K
     refine norm_ (a' := ?_) ?_ ?_
     rotate_left
     ·show Act.put _ (some 117) _ = _
      simp only [Act.put, sA, sB, sC, i64_w, i32_w]
      rfl
     refine pure_ (i := 20) (N := some 118) (v := ?_) (a' := ?_) (bm 2097151 51) rfl rfl (any_of HT_.out (by kernel_rfl)) (fun _ _ _ h => h) (Or.inl ⟨by rfl, ?_⟩) ?_ ?_
     rotate_left
     ·intro w'
      go_simp
      with_reducible rfl
     rotate_left
     ·simp only [Act.put, sA, sB, sC, i64_w, i32_w]
      rfl
     refine pure_ (i := 21) (N := some 119) (v := ?_) (a' := ?_) (bm 4194303 51) rfl rfl (any_of HT_.out (by kernel_rfl)) (fun _ _ _ h => h) (Or.inl ⟨by rfl, ?_⟩) ?_ ?_
     rotate_left
     ·intro w'
      go_simp
      with_reducible rfl
     rotate_left
     ·simp only [Act.put, sA, sB, sC, i64_w, i32_w]
      rfl
     refine pure_ (i := 22) (N := some 120) (v := undef) (a' := ?_) (bm 8388607 51) rfl rfl (any_of HT_.out (by kernel_rfl)) (fun _ _ _ h => h) (Or.inr ⟨by rfl, rfl⟩) ?_ ?_
     rotate_left
     ·simp only [Act.put, sA, sB, sC, i64_w, i32_w]
      rfl
     refine pure_ (i := 23) (N := some 121) (v := undef) (a' := ?_) (bm 16777215 51) rfl rfl (any_of HT_.out (by kernel_rfl)) (fun _ _ _ h => h) (Or.inr ⟨by rfl, rfl⟩) ?_ ?_
     rotate_left
     ·simp only [Act.put, sA, sB, sC, i64_w, i32_w]
      rfl
     refine pure_ (i := 24) (N := some 122) (v := undef) (a' := ?_) (bm 33554431 51) rfl rfl (any_of HT_.out (by kernel_rfl)) (fun _ _ _ h => h) (Or.inr ⟨by rfl, rfl⟩) ?_ ?_
     rotate_left
     ·simp only [Act.put, sA, sB, sC, i64_w, i32_w]
      rfl
     refine pure_ (i := 25) (N := some 123) (v := undef) (a' := ?_) (bm 67108863 51) rfl rfl (any_of HT_.out (by kernel_rfl)) (fun _ _ _ h => h) (Or.inr ⟨by rfl, rfl⟩) ?_ ?_
     rotate_left
     ·simp only [Act.put, sA, sB, sC, i64_w, i32_w]
      rfl
     refine pure_ (i := 26) (N := some 124) (v := undef) (a' := ?_) (bm 134217727 51) rfl rfl (any_of HT_.out (by kernel_rfl)) (fun _ _ _ h => h) (Or.inr ⟨by rfl, rfl⟩) ?_ ?_
     rotate_left
     ·simp only [Act.put, sA, sB, sC, i64_w, i32_w]
      rfl
     refine pure_ (i := 27) (N := some 125) (v := undef) (a' := ?_) (bm 268435455 51) rfl rfl (any_of HT_.out (by kernel_rfl)) (fun _ _ _ h => h) (Or.inr ⟨by rfl, rfl⟩) ?_ ?_
     rotate_left
     ·simp only [Act.put, sA, sB, sC, i64_w, i32_w]
      rfl
     refine pure_ (i := 28) (N := some 126) (v := undef) (a' := ?_) (bm 536870911 51) rfl rfl (any_of HT_.out (by kernel_rfl)) (fun _ _ _ h => h) (Or.inr ⟨by rfl, rfl⟩) ?_ ?_
     rotate_left
     ·simp only [Act.put, sA, sB, sC, i64_w, i32_w]
      rfl
     refine pure_ (i := 29) (N := some 127) (v := undef) (a' := ?_) (bm 1073741823 51) rfl rfl (any_of HT_.out (by kernel_rfl)) (fun _ _ _ h => h) (Or.inr ⟨by rfl, rfl⟩) ?_ ?_
     rotate_left
     ·simp only [Act.put, sA, sB, sC, i64_w, i32_w]
      rfl
     refine pure_ (i := 30) (N := some 128) (v := undef) (a' := ?_) (bm 2147483647 51) rfl rfl (any_of HT_.out (by kernel_rfl)) (fun _ _ _ h => h) (Or.inr ⟨by rfl, rfl⟩) ?_ ?_
     rotate_left
     ·simp only [Act.put, sA, sB, sC, i64_w, i32_w]
      rfl
     refine pure_ (i := 31) (N := some 129) (v := undef) (a' := ?_) (bm 4294967295 51) rfl rfl (any_of HT_.out (by kernel_rfl)) (fun _ _ _ h => h) (Or.inr ⟨by rfl, rfl⟩) ?_ ?_
     rotate_left
     ·simp only [Act.put, sA, sB, sC, i64_w, i32_w]
      rfl
     refine pure_ (i := 32) (N := some 130) (v := undef) (a' := ?_) (bm 8589934591 51) rfl rfl (any_of HT_.out (by kernel_rfl)) (fun _ _ _ h => h) (Or.inr ⟨by rfl, rfl⟩) ?_ ?_
     rotate_left
     ·simp only [Act.put, sA, sB, sC, i64_w, i32_w]
      rfl
     refine pure_ (i := 33) (N := some 131) (v := undef) (a' := ?_) (bm 17179869183 51) rfl rfl (any_of HT_.out (by kernel_rfl)) (fun _ _ _ h => h) (Or.inr ⟨by rfl, rfl⟩) ?_ ?_
     rotate_left
     ·simp only [Act.put, sA, sB, sC, i64_w, i32_w]
      rfl
     refine pure_ (i := 34) (N := some 132) (v := undef) (a' := ?_) (bm 34359738367 51) rfl rfl (any_of HT_.out (by kernel_rfl)) (fun _ _ _ h => h) (Or.inr ⟨by rfl, rfl⟩) ?_ ?_
     rotate_left
     ·simp only [Act.put, sA, sB, sC, i64_w, i32_w]
      rfl
     refine pure_ (i := 35) (N := some 133) (v := undef) (a' := ?_) (bm 68719476735 51) rfl rfl (any_of HT_.out (by kernel_rfl)) (fun _ _ _ h => h) (Or.inr ⟨by rfl, rfl⟩) ?_ ?_
     rotate_left
     ·simp only [Act.put, sA, sB, sC, i64_w, i32_w]
      rfl
     refine pure_ (i := 36) (N := some 134) (v := undef) (a' := ?_) (bm 137438953471 51) rfl rfl (any_of HT_.out (by kernel_rfl)) (fun _ _ _ h => h) (Or.inr ⟨by rfl, rfl⟩) ?_ ?_
     rotate_left
     ·simp only [Act.put, sA, sB, sC, i64_w, i32_w]
      rfl
     refine pure_ (i := 37) (N := some 135) (v := undef) (a' := ?_) (bm 274877906943 51) rfl rfl (any_of HT_.out (by kernel_rfl)) (fun _ _ _ h => h) (Or.inr ⟨by rfl, rfl⟩) ?_ ?_
     rotate_left
     ·simp only [Act.put, sA, sB, sC, i64_w, i32_w]
      rfl
     refine pure_ (i := 38) (N := some 136) (v := undef) (a' := ?_) (bm 549755813887 51) rfl rfl (any_of HT_.out (by kernel_rfl)) (fun _ _ _ h => h) (Or.inr ⟨by rfl, rfl⟩) ?_ ?_
     rotate_left
     ·simp only [Act.put, sA, sB, sC, i64_w, i32_w]
      rfl
     refine pure_ (i := 39) (N := some 137) (v := undef) (a' := ?_) (bm 1099511627775 51) rfl rfl (any_of HT_.out (by kernel_rfl)) (fun _ _ _ h => h) (Or.inr ⟨by rfl, rfl⟩) ?_ ?_
     rotate_left
     ·simp only [Act.put, sA, sB, sC, i64_w, i32_w]
      rfl
     refine pure_ (i := 40) (N := some 138) (v := undef) (a' := ?_) (bm 2199023255551 51) rfl rfl (any_of HT_.out (by kernel_rfl)) (fun _ _ _ h => h) (Or.inr ⟨by rfl, rfl⟩) ?_ ?_
     rotate_left
     ·simp only [Act.put, sA, sB, sC, i64_w, i32_w]
      rfl
     refine pure_ (i := 41) (N := some 139) (v := undef) (a' := ?_) (bm 4398046511103 51) rfl rfl (any_of HT_.out (by kernel_rfl)) (fun _ _ _ h => h) (Or.inr ⟨by rfl, rfl⟩) ?_ ?_
     rotate_left
     ·simp only [Act.put, sA, sB, sC, i64_w, i32_w]
      rfl
     refine pure_ (i := 42) (N := some 140) (v := undef) (a' := ?_) (bm 8796093022207 51) rfl rfl (any_of HT_.out (by kernel_rfl)) (fun _ _ _ h => h) (Or.inr ⟨by rfl, rfl⟩) ?_ ?_
     rotate_left
     ·simp only [Act.put, sA, sB, sC, i64_w, i32_w]
      rfl
     refine pure_ (i := 43) (N := some 141) (v := undef) (a' := ?_) (bm 17592186044415 51) rfl rfl (any_of HT_.out (by kernel_rfl)) (fun _ _ _ h => h) (Or.inr ⟨by rfl, rfl⟩) ?_ ?_
     rotate_left
     ·simp only [Act.put, sA, sB, sC, i64_w, i32_w]
      rfl
     refine pure_ (i := 44) (N := some 142) (v := undef) (a' := ?_) (bm 35184372088831 51) rfl rfl (any_of HT_.out (by kernel_rfl)) (fun _ _ _ h => h) (Or.inr ⟨by rfl, rfl⟩) ?_ ?_
     rotate_left
     ·simp only [Act.put, sA, sB, sC, i64_w, i32_w]
      rfl
     refine pure_ (i := 45) (N := some 143) (v := undef) (a' := ?_) (bm 70368744177663 51) rfl rfl (any_of HT_.out (by kernel_rfl)) (fun _ _ _ h => h) (Or.inr ⟨by rfl, rfl⟩) ?_ ?_
     rotate_left
     ·simp only [Act.put, sA, sB, sC, i64_w, i32_w]
      rfl
     refine pure_ (i := 46) (N := some 144) (v := undef) (a' := ?_) (bm 140737488355327 51) rfl rfl (any_of HT_.out (by kernel_rfl)) (fun _ _ _ h => h) (Or.inr ⟨by rfl, rfl⟩) ?_ ?_
     rotate_left
     ·simp only [Act.put, sA, sB, sC, i64_w, i32_w]
      rfl
     refine pure_ (i := 47) (N := some 145) (v := undef) (a' := ?_) (bm 281474976710655 51) rfl rfl (any_of HT_.out (by kernel_rfl)) (fun _ _ _ h => h) (Or.inr ⟨by rfl, rfl⟩) ?_ ?_
     rotate_left
     ·simp only [Act.put, sA, sB, sC, i64_w, i32_w]
      rfl
     refine pure_ (i := 48) (N := some 146) (v := undef) (a' := ?_) (bm 562949953421311 51) rfl rfl (any_of HT_.out (by kernel_rfl)) (fun _ _ _ h => h) (Or.inr ⟨by rfl, rfl⟩) ?_ ?_
     rotate_left
     ·simp only [Act.put, sA, sB, sC, i64_w, i32_w]
      rfl
     refine pure_ (i := 49) (N := some 147) (v := ?_) (a' := ?_) (bm 1125899906842623 51) rfl rfl (any_of HT_.out (by kernel_rfl)) (fun _ _ _ h => h) (Or.inl ⟨by rfl, ?_⟩) ?_ ?_
     rotate_left
     ·intro w'
      go_simp
      with_reducible rfl
     rotate_left
     ·simp only [Act.put, sA, sB, sC, i64_w, i32_w]
      rfl
     refine pure_ (i := 50) (N := some 97) (v := ?_) (a' := ?_) (bm 2251799813685247 51) rfl rfl (any_of HT_.out (by kernel_rfl)) (fun _ _ _ h => h) (Or.inl ⟨by rfl, ?_⟩) ?_ ?_
     rotate_left
     ·intro w'
      go_simp
      with_reducible rfl
     rotate_left
     ·simp only [Act.put, sA, sB, sC, i64_w, i32_w]
      rfl
     refine done_ (done_of HT_.out (by kernel_rfl)) ?_
     go_wp2
     go_meet
     case rel => exact ⟨rfl, HN9, HB9⟩
    rw [if_pos ⟨ci, cj, ca⟩] at hq
    obtain ⟨p, hp, hq⟩ := Option.bind_eq_some_iff.1 hq
    obtain ⟨c1_, hc1, hq⟩ := Option.bind_eq_some_iff.1 hq
    obtain ⟨c2_, hc2, hq⟩ := Option.bind_eq_some_iff.1 hq
    injection hq with hq
    have HPR := Aside0.mk hp
    have HQQ := Aside0.mk hq
    obtain ⟨i1, hi1⟩ : ∃ n : Nat, n = i + 1 := ⟨_, rfl⟩
    obtain ⟨j1, hj1⟩ : ∃ n : Nat, n = j + 1 := ⟨_, rfl⟩
    have hm1 := HA3.out.2.2
    have hm2 := HB3.out.2.2
    have wi : wrap64 ((i : Int) + 1) = (i1 : Int) := by rw [w64 (by omega) (by omega)]; omega
    have wj : wrap64 ((j : Int) + 1) = (j1 : Int) := by rw [w64 (by omega) (by omega)]; omega
    rw [wi, wj] at hc2
    obtain ⟨⟨_, k1, _, k2⟩, k3⟩ := cellT_some hc1
    obtain ⟨⟨_, k4, _, k5⟩, k6⟩ := cellT_some hc2
    obtain ⟨td, E8, e8, et, hr0, hle, hre⟩ := at_L10 HT3.out (i : Int) (Int.natCast_nonneg _) k1
    subst et
    obtain ⟨re, er, hr1⟩ := Kd.at_int hre (j : Int) (Int.natCast_nonneg _) k2
    subst er
    obtain ⟨td', F8, f8, et, hr2, hlf, hrf⟩ := at_L10 HT3.out (i1 : Int) (Int.natCast_nonneg _) k4
    obtain rfl : td = td' := Option.some.inj et
    obtain ⟨rf, ef, hr3⟩ := Kd.at_int hrf (j1 : Int) (Int.natCast_nonneg _) k5
    subst ef
    rw [k3] at hr1
    rw [k6] at hr3
    simp only [Int.toNat_natCast] at hr0 hr1 hr2 hr3
    have HAK := Aside0.mk ((alike_is x y).trans (congrArg some (decide_eq_true ca)))
    have q1 : (i : Int) < (a2.length : Int) := by omega
    have q2 : (j : Int) < (b2.length : Int) := by omega
    clear hp hc1 hc2 hq et hre hle hrf hlf k3 k6 hi1 hj1 hm1 hm2 ci cj ca HX HY
    refine start_ (n := 51) (S := fun w' => w'.cell? (ad.add (i * 3)) = some (.int .i64 x.f0) ∧ w'.cell? ⟨(ad.add (i * 3)).block, (ad.add (i * 3)).off + 1, none⟩ = some (.int .i64 x.f1) ∧ w'.cell? ⟨(ad.add (i * 3)).block, (ad.add (i * 3)).off + 2, none⟩ = some (.slice A7 x.f2.length c7) ∧ w'.cell? (bd.add (j * 3)) = some (.int .i64 y.f0) ∧ w'.cell? ⟨(bd.add (j * 3)).block, (bd.add (j * 3)).off + 1, none⟩ = some (.int .i64 y.f1) ∧ w'.cell? ⟨(bd.add (j * 3)).block, (bd.add (j * 3)).off + 2, none⟩ = some (.slice B7 y.f2.length d7) ∧ w'.cell? (td.add i) = some (.slice (some re) (rd_L10 t (i : Int)).length e8) ∧ w'.cell? (re.add j) = some (.int .i64 c1_) ∧ w'.cell? (td.add i1) = some (.slice (some rf) (rd_L10 t (i1 : Int)).length f8) ∧ w'.cell? (rf.add j1) = some (.int .i64 c2_)) (ds := []) #[false, false, false, false, false, false, false, false, false, false, false, false, false, false, false, false, false, false, false, false, false, false, false, false, false, false, false, false, false, false, false, false, false, false, false, false, false, false, false, false, false, false, false, false, false, false, false, false, false, false, false] (by kernel_rfl) rfl rfl ⟨((HBD.out.cell (World.block_lt_of_cell? w3 _ hx0)).trans hx0), ((HBD.out.cell (World.block_lt_of_cell? w3 _ hx1)).trans hx1), ((HBD.out.cell (World.block_lt_of_cell? w3 _ hx2)).trans hx2), ((HBD.out.cell (World.block_lt_of_cell? w3 _ hy0)).trans hy0), ((HBD.out.cell (World.block_lt_of_cell? w3 _ hy1)).trans hy1), ((HBD.out.cell (World.block_lt_of_cell? w3 _ hy2)).trans hy2), ((HBD.out.cell (World.block_lt_of_cell? w3 _ hr0)).trans hr0), ((HBD.out.cell (World.block_lt_of_cell? w3 _ hr1)).trans hr1), ((HBD.out.cell (World.block_lt_of_cell? w3 _ hr2)).trans hr2), ((HBD.out.cell (World.block_lt_of_cell? w3 _ hr3)).trans hr3)⟩ (fun hHeld => ?_)
    refine with_tabW raw100.tab13 raw100.bits13 (fun HT_ HW_ => ?_)
    refine pure_ (i := 0) (N := some 98) (v := ?_) (a' := ?_) (bm 1 51) rfl rfl (any_of HT_.out (by kernel_rfl)) (fun _ _ _ h => h) (Or.inl ⟨by rfl, ?_⟩) ?_ ?_
    rotate_left
    ·intro w'
     go_simp
     with_reducible rfl
    rotate_left
    ·simp only [Act.put, sA, sB, sC, i64_w, i32_w]
     rfl
    refine pure_ (i := 1) (N := some 99) (v := ?_) (a' := ?_) (bm 3 51) rfl rfl (any_of HT_.out (by kernel_rfl)) (fun _ _ _ h => h) (Or.inl ⟨by rfl, ?_⟩) ?_ ?_
    rotate_left
    ·intro w'
     go_simp
     with_reducible rfl
    rotate_left
    ·simp only [Act.put, sA, sB, sC, i64_w, i32_w]
     rfl
    refine pure_ (i := 2) (N := some 100) (v := ?_) (a' := ?_) (bm 7 51) rfl rfl (any_of HT_.out (by kernel_rfl)) (fun _ _ _ h => h) (Or.inl ⟨by rfl, ?_⟩) ?_ ?_
    rotate_left
    ·intro w'
     go_simp
     with_reducible rfl
    rotate_left
    ·simp only [Act.put, sA, sB, sC, i64_w, i32_w]
     rfl
    refine pure_ (i := 3) (N := some 101) (v := ?_) (a' := ?_) (bm 15 51) rfl rfl (any_of HT_.out (by kernel_rfl)) (fun _ _ _ h => h) (Or.inl ⟨by rfl, ?_⟩) ?_ ?_
    rotate_left
    ·intro w'
     go_simp
     with_reducible rfl
    rotate_left
    ·simp only [Act.put, sA, sB, sC, i64_w, i32_w]
     rfl
    refine pure_ (i := 4) (N := some 102) (v := ?_) (a' := ?_) (bm 31 51) rfl rfl (any_of HT_.out (by kernel_rfl)) (fun _ _ _ h => h) (Or.inl ⟨by rfl, ?_⟩) ?_ ?_
    rotate_left
    ·intro w'
     go_simp
     with_reducible rfl
    rotate_left
    ·simp only [Act.put, sA, sB, sC, i64_w, i32_w]
     rfl
    refine pure_ (i := 5) (N := some 103) (v := ?_) (a' := ?_) (bm 63 51) rfl rfl (any_of HT_.out (by kernel_rfl)) (fun _ _ _ h => h) (Or.inl ⟨by rfl, ?_⟩) ?_ ?_
    rotate_left
    ·intro w'
     go_simp
     with_reducible rfl
    rotate_left
    ·simp only [Act.put, sA, sB, sC, i64_w, i32_w]
     rfl
    refine pure_ (i := 6) (N := some 104) (v := ?_) (a' := ?_) (bm 127 51) rfl rfl (any_of HT_.out (by kernel_rfl)) (fun _ _ _ h => h) (Or.inl ⟨by rfl, ?_⟩) ?_ ?_
    rotate_left
    ·intro w'
     go_simp
     with_reducible rfl
    rotate_left
    ·simp only [Act.put, sA, sB, sC, i64_w, i32_w]
     rfl
    refine pure_ (i := 7) (N := some 105) (v := ?_) (a' := ?_) (bm 255 51) rfl rfl (any_of HT_.out (by kernel_rfl)) (fun _ _ _ h => h) (Or.inl ⟨by rfl, ?_⟩) ?_ ?_
    rotate_left
    ·intro w'
     go_simp
     with_reducible rfl
    rotate_left
    ·simp only [Act.put, sA, sB, sC, i64_w, i32_w]
     rfl
    refine pure_ (i := 8) (N := some 106) (v := ?_) (a' := ?_) (bm 511 51) rfl rfl (any_of HT_.out (by kernel_rfl)) (fun _ _ _ h => h) (Or.inl ⟨by rfl, ?_⟩) ?_ ?_
    rotate_left
    ·intro w'
     go_simp
     with_reducible rfl
    rotate_left
    ·simp only [Act.put, sA, sB, sC, i64_w, i32_w]
     rfl
    refine pure_ (i := 9) (N := some 107) (v := ?_) (a' := ?_) (bm 1023 51) rfl rfl (any_of HT_.out (by kernel_rfl)) (fun _ _ _ h => h) (Or.inl ⟨by rfl, ?_⟩) ?_ ?_
    rotate_left
    ·intro w'
     go_simp
     with_reducible rfl
    rotate_left
    ·simp only [Act.put, sA, sB, sC, i64_w, i32_w]
     rfl
    refine pure_ (i := 10) (N := some 108) (v := ?_) (a' := ?_) (bm 2047 51) rfl rfl (any_of HT_.out (by kernel_rfl)) (fun _ _ _ h => h) (Or.inl ⟨by rfl, ?_⟩) ?_ ?_
    rotate_left
    ·intro w'
     go_simp
     with_reducible rfl
    rotate_left
    ·simp only [Act.put, sA, sB, sC, i64_w, i32_w]
     rfl
    refine pure_ (i := 11) (N := some 109) (v := ?_) (a' := ?_) (bm 4095 51) rfl rfl (any_of HT_.out (by kernel_rfl)) (fun _ _ _ h => h) (Or.inl ⟨by rfl, ?_⟩) ?_ ?_
    rotate_left
    ·intro w'
     go_simp
     with_reducible rfl
    rotate_left
    ·simp only [Act.put, sA, sB, sC, i64_w, i32_w]
     rfl
    refine pure_ (i := 12) (N := some 110) (v := ?_) (a' := ?_) (bm 8191 51) rfl rfl (any_of HT_.out (by kernel_rfl)) (fun _ _ _ h => h) (Or.inl ⟨by rfl, ?_⟩) ?_ ?_
    rotate_left
    ·intro w'
     go_simp
     with_reducible rfl
    rotate_left
    ·simp only [Act.put, sA, sB, sC, i64_w, i32_w]
     rfl
    refine pure_ (i := 13) (N := some 111) (v := ?_) (a' := ?_) (bm 16383 51) rfl rfl (any_of HT_.out (by kernel_rfl)) (fun _ _ _ h => h) (Or.inl ⟨by rfl, ?_⟩) ?_ ?_
    rotate_left
    ·intro w'
     go_simp
     with_reducible rfl
    rotate_left
    ·simp only [Act.put, sA, sB, sC, i64_w, i32_w]
     rfl
    refine pure_ (i := 15) (N := some 113) (v := ?_) (a' := ?_) (bm 49151 51) rfl rfl (any_of HT_.out (by kernel_rfl)) (fun _ _ _ h => h) (Or.inl ⟨by rfl, ?_⟩) ?_ ?_
    rotate_left
    ·intro w'
     go_simp
     with_reducible rfl
    rotate_left
    ·simp only [Act.put, sA, sB, sC, i64_w, i32_w]
     rfl
    refine pure_ (i := 16) (N := some 114) (v := ?_) (a' := ?_) (bm 114687 51) rfl rfl (any_of HT_.out (by kernel_rfl)) (fun _ _ _ h => h) (Or.inl ⟨by rfl, ?_⟩) ?_ ?_
    rotate_left
    ·intro w'
     go_simp
     with_reducible rfl
    rotate_left
    ·simp only [Act.put, sA, sB, sC, i64_w, i32_w]
     rfl
    refine pure_ (i := 17) (N := some 115) (v := ?_) (a' := ?_) (bm 245759 51) rfl rfl (any_of HT_.out (by kernel_rfl)) (fun _ _ _ h => h) (Or.inl ⟨by rfl, ?_⟩) ?_ ?_
    rotate_left
    ·intro w'
     go_simp
     with_reducible rfl
    rotate_left
    ·simp only [Act.put, sA, sB, sC, i64_w, i32_w]
     rfl
    refine take_ (i := 14) (N := some 112) (v := ?_) (a' := ?_) (bm 262143 51) rfl rfl (take_ofW HT_.out HW_.out (by kernel_rfl)) (fun _ _ _ h => h) (Or.inl ⟨by rfl, ?_⟩) hHeld ?_ ?_
    rotate_left
    ·rintro w' ⟨s0, s1, s2, s3, s4, s5, s6, s7, s8, s9⟩
     go_simp
     with_reducible rfl
    rotate_left
    ·simp only [Act.put, sA, sB, sC, i64_w, i32_w]
     rfl
    refine take_ (i := 18) (N := some 116) (v := ?_) (a' := ?_) (bm 524287 51) rfl rfl (take_ofW HT_.out HW_.out (by kernel_rfl)) (fun _ _ _ h => h) (Or.inl ⟨by rfl, ?_⟩) hHeld ?_ ?_
    rotate_left
    ·rintro w' ⟨s0, s1, s2, s3, s4, s5, s6, s7, s8, s9⟩
     go_simp
     with_reducible rfl
    rotate_left
    ·simp only [Act.put, sA, sB, sC, i64_w, i32_w]
     rfl
    refine one_ (i := 19) (N := some 117) (bm 1048575 51) rfl rfl (one_of HT_.out (by kernel_rfl)) (by decide) (fun K hK => ?_)
    refine goes_ Try.func133 (by kernel_rfl) rfl #[.agg #[.int .i64 x.f0, .int .i64 x.f1, .slice A7 x.f2.length c7], .agg #[.int .i64 y.f0, .int .i64 y.f1, .slice B7 y.f2.length d7]] (by rfl) rfl rfl (by simp only [List.map_toArray, List.map_cons, List.map_nil]; rfl) ?_
    with_reducible refine (diff_alike.calls x.f0 x.f1 A7 c7 x.f2 y.f0 y.f1 B7 d7 y.f2 true _ (Kd.C_below HGX.out HBD.out) HLX.out (Kd.C_below HGY.out HBD.out) HLY.out HAK.out).mono ?_
    rintro e w9 ⟨rfl, hb9⟩
    refine ⟨_, rfl, ?_⟩
    have HB9 := Aside0.mk (below_step HBD.out hb9)
    have HN9 := Aside0.mk (Kd.N_below HND.out hb9)
    clear hb9
    refine hK.out _ _ ⟨((HB9.out.cell (World.block_lt_of_cell? w3 _ hx0)).trans hx0), ((HB9.out.cell (World.block_lt_of_cell? w3 _ hx1)).trans hx1), ((HB9.out.cell (World.block_lt_of_cell? w3 _ hx2)).trans hx2), ((HB9.out.cell (World.block_lt_of_cell? w3 _ hy0)).trans hy0), ((HB9.out.cell (World.block_lt_of_cell? w3 _ hy1)).trans hy1), ((HB9.out.cell (World.block_lt_of_cell? w3 _ hy2)).trans hy2), ((HB9.out.cell (World.block_lt_of_cell? w3 _ hr0)).trans hr0), ((HB9.out.cell (World.block_lt_of_cell? w3 _ hr1)).trans hr1), ((HB9.out.cell (World.block_lt_of_cell? w3 _ hr2)).trans hr2), ((HB9.out.cell (World.block_lt_of_cell? w3 _ hr3)).trans hr3)⟩ (fun hHeld => ?_)
    clear hK K
    refine norm_ (a' := ?_) ?_ ?_
    rotate_left
    ·show Act.put _ (some 117) _ = _
     simp only [Act.put, sA, sB, sC, i64_w, i32_w]
     rfl
    refine pure_ (i := 20) (N := some 118) (v := ?_) (a' := ?_) (bm 2097151 51) rfl rfl (any_of HT_.out (by kernel_rfl)) (fun _ _ _ h => h) (Or.inl ⟨by rfl, ?_⟩) ?_ ?_
    rotate_left
    ·intro w'
     go_simp
     with_reducible rfl
    rotate_left
    ·simp only [Act.put, sA, sB, sC, i64_w, i32_w]
     rfl
    refine pure_ (i := 21) (N := some 119) (v := ?_) (a' := ?_) (bm 4194303 51) rfl rfl (any_of HT_.out (by kernel_rfl)) (fun _ _ _ h => h) (Or.inl ⟨by rfl, ?_⟩) ?_ ?_
    rotate_left
    ·intro w'
     go_simp
     with_reducible rfl
    rotate_left
    ·simp only [Act.put, sA, sB, sC, i64_w, i32_w]
     rfl
    refine pure_ (i := 22) (N := some 120) (v := ?_) (a' := ?_) (bm 8388607 51) rfl rfl (any_of HT_.out (by kernel_rfl)) (fun _ _ _ h => h) (Or.inl ⟨by rfl, ?_⟩) ?_ ?_
    rotate_left
    ·intro w'
     go_simp
     with_reducible rfl
    rotate_left
    ·simp only [Act.put, sA, sB, sC, i64_w, i32_w]
     rfl
    refine pure_ (i := 23) (N := some 121) (v := ?_) (a' := ?_) (bm 16777215 51) rfl rfl (any_of HT_.out (by kernel_rfl)) (fun _ _ _ h => h) (Or.inl ⟨by rfl, ?_⟩) ?_ ?_
    rotate_left
    ·intro w'
     go_simp
     with_reducible rfl
    rotate_left
    ·simp only [Act.put, sA, sB, sC, i64_w, i32_w]
     rfl
    refine pure_ (i := 24) (N := some 122) (v := ?_) (a' := ?_) (bm 33554431 51) rfl rfl (any_of HT_.out (by kernel_rfl)) (fun _ _ _ h => h) (Or.inl ⟨by rfl, ?_⟩) ?_ ?_
    rotate_left
    ·intro w'
     go_simp
     with_reducible rfl
    rotate_left
    ·simp only [Act.put, sA, sB, sC, i64_w, i32_w]
     rfl
    refine pure_ (i := 26) (N := some 124) (v := ?_) (a' := ?_) (bm 100663295 51) rfl rfl (any_of HT_.out (by kernel_rfl)) (fun _ _ _ h => h) (Or.inl ⟨by rfl, ?_⟩) ?_ ?_
    rotate_left
    ·intro w'
     go_simp
     with_reducible rfl
    rotate_left
    ·simp only [Act.put, sA, sB, sC, i64_w, i32_w]
     rfl
    refine pure_ (i := 29) (N := some 127) (v := ?_) (a' := ?_) (bm 637534207 51) rfl rfl (any_of HT_.out (by kernel_rfl)) (fun _ _ _ h => h) (Or.inl ⟨by rfl, ?_⟩) ?_ ?_
    rotate_left
    ·intro w'
     go_simp
     with_reducible rfl
    rotate_left
    ·simp only [Act.put, sA, sB, sC, i64_w, i32_w]
     rfl
    refine pure_ (i := 30) (N := some 128) (v := ?_) (a' := ?_) (bm 1711276031 51) rfl rfl (any_of HT_.out (by kernel_rfl)) (fun _ _ _ h => h) (Or.inl ⟨by rfl, ?_⟩) ?_ ?_
    rotate_left
    ·intro w'
     go_simp
     with_reducible rfl
    rotate_left
    ·simp only [Act.put, sA, sB, sC, i64_w, i32_w]
     rfl
    refine pure_ (i := 31) (N := some 129) (v := ?_) (a' := ?_) (bm 3858759679 51) rfl rfl (any_of HT_.out (by kernel_rfl)) (fun _ _ _ h => h) (Or.inl ⟨by rfl, ?_⟩) ?_ ?_
    rotate_left
    ·intro w'
     go_simp
     with_reducible rfl
    rotate_left
    ·simp only [Act.put, sA, sB, sC, i64_w, i32_w]
     rfl
    refine pure_ (i := 32) (N := some 130) (v := ?_) (a' := ?_) (bm 8153726975 51) rfl rfl (any_of HT_.out (by kernel_rfl)) (fun _ _ _ h => h) (Or.inl ⟨by rfl, ?_⟩) ?_ ?_
    rotate_left
    ·intro w'
     go_simp
     with_reducible rfl
    rotate_left
    ·simp only [Act.put, sA, sB, sC, i64_w, i32_w]
     rfl
    refine pure_ (i := 34) (N := some 132) (v := ?_) (a' := ?_) (bm 25333596159 51) rfl rfl (any_of HT_.out (by kernel_rfl)) (fun _ _ _ h => h) (Or.inl ⟨by rfl, ?_⟩) ?_ ?_
    rotate_left
    ·intro w'
     go_simp
     with_reducible rfl
    rotate_left
    ·simp only [Act.put, sA, sB, sC, i64_w, i32_w]
     rfl
    refine pure_ (i := 35) (N := some 133) (v := ?_) (a' := ?_) (bm 59693334527 51) rfl rfl (any_of HT_.out (by kernel_rfl)) (fun _ _ _ h => h) (Or.inl ⟨by rfl, ?_⟩) ?_ ?_
    rotate_left
    ·intro w'
     go_simp
     with_reducible rfl
    rotate_left
    ·simp only [Act.put, sA, sB, sC, i64_w, i32_w]
     rfl
    refine pure_ (i := 38) (N := some 136) (v := ?_) (a' := ?_) (bm 334571241471 51) rfl rfl (any_of HT_.out (by kernel_rfl)) (fun _ _ _ h => h) (Or.inl ⟨by rfl, ?_⟩) ?_ ?_
    rotate_left
    ·intro w'
     go_simp
     with_reducible rfl
    rotate_left
    ·simp only [Act.put, sA, sB, sC, i64_w, i32_w]
     rfl
    refine pure_ (i := 39) (N := some 137) (v := ?_) (a' := ?_) (bm 884327055359 51) rfl rfl (any_of HT_.out (by kernel_rfl)) (fun _ _ _ h => h) (Or.inl ⟨by rfl, ?_⟩) ?_ ?_
    rotate_left
    ·intro w'
     go_simp
     with_reducible rfl
    rotate_left
    ·simp only [Act.put, sA, sB, sC, i64_w, i32_w]
     rfl
    refine pure_ (i := 40) (N := some 138) (v := ?_) (a' := ?_) (bm 1983838683135 51) rfl rfl (any_of HT_.out (by kernel_rfl)) (fun _ _ _ h => h) (Or.inl ⟨by rfl, ?_⟩) ?_ ?_
    rotate_left
    ·intro w'
     go_simp
     with_reducible rfl
    rotate_left
    ·simp only [Act.put, sA, sB, sC, i64_w, i32_w]
     rfl
    refine pure_ (i := 42) (N := some 140) (v := ?_) (a' := ?_) (bm 6381885194239 51) rfl rfl (any_of HT_.out (by kernel_rfl)) (fun _ _ _ h => h) (Or.inl ⟨by rfl, ?_⟩) ?_ ?_
    rotate_left
    ·intro w'
     go_simp
     with_reducible rfl
    rotate_left
    ·simp only [Act.put, sA, sB, sC, i64_w, i32_w]
     rfl
    refine pure_ (i := 43) (N := some 141) (v := ?_) (a' := ?_) (bm 15177978216447 51) rfl rfl (any_of HT_.out (by kernel_rfl)) (fun _ _ _ h => h) (Or.inl ⟨by rfl, ?_⟩) ?_ ?_
    rotate_left
    ·intro w'
     go_simp
     with_reducible rfl
    rotate_left
    ·simp only [Act.put, sA, sB, sC, i64_w, i32_w]
     rfl
    refine pure_ (i := 44) (N := some 142) (v := ?_) (a' := ?_) (bm 32770164260863 51) rfl rfl (any_of HT_.out (by kernel_rfl)) (fun _ _ _ h => h) (Or.inl ⟨by rfl, ?_⟩) ?_ ?_
    rotate_left
    ·intro w'
     go_simp
     with_reducible rfl
    rotate_left
    ·simp only [Act.put, sA, sB, sC, i64_w, i32_w]
     rfl
    refine take_ (i := 25) (N := some 123) (v := ?_) (a' := ?_) (bm 32770197815295 51) rfl rfl (take_ofW HT_.out HW_.out (by kernel_rfl)) (fun _ _ _ h => h) (Or.inl ⟨by rfl, ?_⟩) hHeld ?_ ?_
    rotate_left
    ·rintro w' ⟨s0, s1, s2, s3, s4, s5, s6, s7, s8, s9⟩
     go_simp
     with_reducible rfl
    rotate_left
    ·simp only [Act.put, sA, sB, sC, i64_w, i32_w]
     rfl
    refine pure_ (i := 27) (N := some 125) (v := ?_) (a' := ?_) (bm 32770332033023 51) rfl rfl (any_of HT_.out (by kernel_rfl)) (fun _ _ _ h => h) (Or.inl ⟨by rfl, ?_⟩) ?_ ?_
    rotate_left
    ·intro w'
     go_simp
     with_reducible rfl
    rotate_left
    ·simp only [Act.put, sA, sB, sC, i64_w, i32_w]
     rfl
    refine take_ (i := 28) (N := some 126) (v := ?_) (a' := ?_) (bm 32770600468479 51) rfl rfl (take_ofW HT_.out HW_.out (by kernel_rfl)) (fun _ _ _ h => h) (Or.inl ⟨by rfl, ?_⟩) hHeld ?_ ?_
    rotate_left
    ·rintro w' ⟨s0, s1, s2, s3, s4, s5, s6, s7, s8, s9⟩
     go_simp
     with_reducible rfl
    rotate_left
    ·simp only [Act.put, sA, sB, sC, i64_w, i32_w]
     rfl
    refine take_ (i := 33) (N := some 131) (v := ?_) (a' := ?_) (bm 32779190403071 51) rfl rfl (take_ofW HT_.out HW_.out (by kernel_rfl)) (fun _ _ _ h => h) (Or.inl ⟨by rfl, ?_⟩) hHeld ?_ ?_
    rotate_left
    ·rintro w' ⟨s0, s1, s2, s3, s4, s5, s6, s7, s8, s9⟩
     go_simp
     with_reducible rfl
    rotate_left
    ·simp only [Act.put, sA, sB, sC, i64_w, i32_w]
     rfl
    refine pure_ (i := 36) (N := some 134) (v := ?_) (a' := ?_) (bm 32847909879807 51) rfl rfl (any_of HT_.out (by kernel_rfl)) (fun _ _ _ h => h) (Or.inl ⟨by rfl, ?_⟩) ?_ ?_
    rotate_left
    ·intro w'
     go_simp
     with_reducible rfl
    rotate_left
    ·simp only [Act.put, sA, sB, sC, i64_w, i32_w]
     rfl
    refine take_ (i := 37) (N := some 135) (v := ?_) (a' := ?_) (bm 32985348833279 51) rfl rfl (take_ofW HT_.out HW_.out (by kernel_rfl)) (fun _ _ _ h => h) (Or.inl ⟨by rfl, ?_⟩) hHeld ?_ ?_
    rotate_left
    ·rintro w' ⟨s0, s1, s2, s3, s4, s5, s6, s7, s8, s9⟩
     go_simp
     with_reducible rfl
    rotate_left
    ·simp only [Act.put, sA, sB, sC, i64_w, i32_w]
     rfl
    refine take_ (i := 41) (N := some 139) (v := ?_) (a' := ?_) (bm 35184372088831 51) rfl rfl (take_ofW HT_.out HW_.out (by kernel_rfl)) (fun _ _ _ h => h) (Or.inl ⟨by rfl, ?_⟩) hHeld ?_ ?_
    rotate_left
    ·rintro w' ⟨s0, s1, s2, s3, s4, s5, s6, s7, s8, s9⟩
     go_simp
     with_reducible rfl
    rotate_left
    ·simp only [Act.put, sA, sB, sC, i64_w, i32_w]
     rfl
    refine take_ (i := 45) (N := some 143) (v := ?_) (a' := ?_) (bm 70368744177663 51) rfl rfl (take_ofW HT_.out HW_.out (by kernel_rfl)) (fun _ _ _ h => h) (Or.inl ⟨by rfl, ?_⟩) hHeld ?_ ?_
    rotate_left
    ·rintro w' ⟨s0, s1, s2, s3, s4, s5, s6, s7, s8, s9⟩
     go_simp
     with_reducible rfl
    rotate_left
    ·simp only [Act.put, sA, sB, sC, i64_w, i32_w]
     rfl
    refine one_ (i := 46) (N := some 144) (bm 140737488355327 51) rfl rfl (one_of HT_.out (by kernel_rfl)) (by decide) (fun K hK => ?_)
    refine goes_ Try.func134 (by kernel_rfl) rfl #[.agg #[.int .i64 x.f0, .int .i64 x.f1, .slice A7 x.f2.length c7], .agg #[.int .i64 y.f0, .int .i64 y.f1, .slice B7 y.f2.length d7]] (by rfl) rfl rfl (by simp only [List.map_toArray, List.map_cons, List.map_nil]; rfl) ?_
    with_reducible refine (diff_price.calls k x.f0 x.f1 A7 c7 x.f2 y.f0 y.f1 B7 d7 y.f2 p _ (Kd.C_below HGX.out HB9.out) HLX.out (Kd.C_below HGY.out HB9.out) HLY.out HPR.out).mono ?_
    rintro e w10 ⟨rfl, hb10⟩
    refine ⟨_, rfl, ?_⟩
    have HB10 := Aside0.mk (below_step HB9.out hb10)
    have HN10 := Aside0.mk (Kd.N_below HN9.out hb10)
    clear hb10
    refine hK.out _ _ ⟨((HB10.out.cell (World.block_lt_of_cell? w3 _ hx0)).trans hx0), ((HB10.out.cell (World.block_lt_of_cell? w3 _ hx1)).trans hx1), ((HB10.out.cell (World.block_lt_of_cell? w3 _ hx2)).trans hx2), ((HB10.out.cell (World.block_lt_of_cell? w3 _ hy0)).trans hy0), ((HB10.out.cell (World.block_lt_of_cell? w3 _ hy1)).trans hy1), ((HB10.out.cell (World.block_lt_of_cell? w3 _ hy2)).trans hy2), ((HB10.out.cell (World.block_lt_of_cell? w3 _ hr0)).trans hr0), ((HB10.out.cell (World.block_lt_of_cell? w3 _ hr1)).trans hr1), ((HB10.out.cell (World.block_lt_of_cell? w3 _ hr2)).trans hr2), ((HB10.out.cell (World.block_lt_of_cell? w3 _ hr3)).trans hr3)⟩ (fun hHeld => ?_)
    clear hK K
    refine norm_ (a' := ?_) ?_ ?_
    rotate_left
    ·show Act.put _ (some 144) _ = _
     simp only [Act.put, sA, sB, sC, i64_w, i32_w]
     rfl
    refine pure_ (i := 47) (N := some 145) (v := ?_) (a' := ?_) (bm 281474976710655 51) rfl rfl (any_of HT_.out (by kernel_rfl)) (fun _ _ _ h => h) (Or.inl ⟨by rfl, ?_⟩) ?_ ?_
    rotate_left
    ·intro w'
     go_simp
     with_reducible rfl
    rotate_left
    ·simp only [Act.put, sA, sB, sC, i64_w, i32_w]
     rfl
    refine pure_ (i := 48) (N := some 146) (v := ?_) (a' := ?_) (bm 562949953421311 51) rfl rfl (any_of HT_.out (by kernel_rfl)) (fun _ _ _ h => h) (Or.inl ⟨by rfl, ?_⟩) ?_ ?_
    rotate_left
    ·intro w'
     go_simp
     with_reducible rfl
    rotate_left
    ·simp only [Act.put, sA, sB, sC, i64_w, i32_w]
     rfl
    refine pure_ (i := 49) (N := some 147) (v := ?_) (a' := ?_) (bm 1125899906842623 51) rfl rfl (any_of HT_.out (by kernel_rfl)) (fun _ _ _ h => h) (Or.inl ⟨by rfl, ?_⟩) ?_ ?_
    rotate_left
    ·intro w'
     go_simp
     with_reducible rfl
    rotate_left
    ·simp only [Act.put, sA, sB, sC, i64_w, i32_w]
     rfl
    refine pure_ (i := 50) (N := some 97) (v := ?_) (a' := ?_) (bm 2251799813685247 51) rfl rfl (any_of HT_.out (by kernel_rfl)) (fun _ _ _ h => h) (Or.inl ⟨by rfl, ?_⟩) ?_ ?_
    rotate_left
    ·intro w'
     go_simp
     with_reducible rfl
    rotate_left
    ·simp only [Act.put, sA, sB, sC, i64_w, i32_w]
     rfl
    refine done_ (done_of HT_.out (by kernel_rfl)) ?_
    clear wi wj
    go_wp2
    go_meet
    case rel => exact ⟨by rw [← HQQ.out]; first | rfl | (congr 1; first | rfl | (rw [Bool.eq_iff_iff]; simp)), HN10, HB10⟩
  case rest =>
  obtain ⟨rfl, HN2, HBR2⟩ := hcut
  clear HN HBR
  have HN := HN2
  have HBR := HBR2
  clear HN2 HBR2
  have hL := HLQ.out
  have hm1 := HA3.out.2.2
  have hm2 := HB3.out.2.2
  have hi1 := HI.out.1
  have hi2 := HI.out.2.1
  cases q with
  | true =>
   as_aux_lemma =>
    rw [if_pos rfl] at hL
    have hij : i < a2.length ∧ j < b2.length := by
     have hq := HQ.out
     by_cases c : i < a2.length ∧ j < b2.length ∧ Alk x y
     ·exact ⟨c.1, c.2.1⟩
     ·rw [if_neg c] at hq; cases hq
    obtain ⟨ci, cj⟩ := hij
    obtain ⟨ch, hch, hL⟩ := Option.bind_eq_some_iff.1 hL
    have HCH := Aside0.mk hch
    have HLN := Aside0.mk hL
    clear hch hL HLQ HQ
    have HIX := Aside0.mk (show i + 1 ≤ a2.length ∧ j + 1 ≤ b2.length ∧ (out ++ [(⟨0, 1, ch, []⟩ : S95)]).length + gl ≤ 4194304 from ⟨by have := HI.out; omega, by have := HI.out; omega, by have := HI.out.2.2; rw [List.length_append]; show _ + 1 + gl ≤ _; omega⟩)
    have HBD := Aside0.mk (below_drew1 HBR.out)
    have HND := Aside0.mk (Kd.N_drew HN.out)
    clear HBR HN
    obtain ⟨ad, A7, c7, ea, hx0, hx1, hx2, hl2, hg2⟩ := at_T26 HA3.out.1 (i : Int) (by omega) (by omega)
    obtain ⟨bd, B7, d7, eb, hy0, hy1, hy2, hk2, hj2⟩ := at_T26 HB3.out.1 (j : Int) (by omega) (by omega)
    subst ea
    subst eb
    rw [← HX.out] at hx0 hx1 hx2 hl2 hg2
    rw [← HY.out] at hy0 hy1 hy2 hk2 hj2
    simp only [Int.toNat_natCast] at hx0 hx1 hx2 hy0 hy1 hy2
    have HLX := Aside0.mk hl2
    have HLY := Aside0.mk hk2
    have HGX := Aside0.mk hg2
    have HGY := Aside0.mk hj2
    clear hl2 hk2 hg2 hj2
    have q1 : (i : Int) < (a2.length : Int) := by omega
    have q2 : (j : Int) < (b2.length : Int) := by omega
    have q3 : (a2.length : Int) ≤ 1048576 := by omega
    have q4 : (b2.length : Int) ≤ 1048576 := by omega
    clear hm1 hm2 hi1 hi2 ci cj hx0 hx1 hy0 hy1
    go_upto_region 14 with (fail)
    refine start_ (n := 16) (S := fun w' => w'.cell? ⟨(ad.add (i * 3)).block, (ad.add (i * 3)).off + 2, none⟩ = some (.slice A7 x.f2.length c7) ∧ w'.cell? ⟨(bd.add (j * 3)).block, (bd.add (j * 3)).off + 2, none⟩ = some (.slice B7 y.f2.length d7)) (ds := [13, 14]) #[false, false, false, false, false, false, false, false, false, false, false, false, false, false, false, false] (by kernel_rfl) rfl rfl ⟨((HBD.out.cell (World.block_lt_of_cell? w3 _ hx2)).trans hx2), ((HBD.out.cell (World.block_lt_of_cell? w3 _ hy2)).trans hy2)⟩ (fun hHeld => ?_)
    refine with_tabW raw100.tab14 raw100.bits14 (fun HT_ HW_ => ?_)
    refine pure_ (i := 0) (N := some 148) (v := ?_) (a' := ?_) (bm 1 16) rfl rfl (any_of HT_.out (by kernel_rfl)) (fun _ _ _ h => h) (Or.inl ⟨by rfl, ?_⟩) ?_ ?_
    rotate_left
    ·intro w'
     go_simp
     with_reducible rfl
    rotate_left
    ·simp only [Act.put, sA, sB, sC, i64_w, i32_w]
     rfl
    refine pure_ (i := 1) (N := some 149) (v := ?_) (a' := ?_) (bm 3 16) rfl rfl (any_of HT_.out (by kernel_rfl)) (fun _ _ _ h => h) (Or.inl ⟨by rfl, ?_⟩) ?_ ?_
    rotate_left
    ·intro w'
     go_simp
     with_reducible rfl
    rotate_left
    ·simp only [Act.put, sA, sB, sC, i64_w, i32_w]
     rfl
    refine pure_ (i := 2) (N := some 150) (v := ?_) (a' := ?_) (bm 7 16) rfl rfl (any_of HT_.out (by kernel_rfl)) (fun _ _ _ h => h) (Or.inl ⟨by rfl, ?_⟩) ?_ ?_
    rotate_left
    ·intro w'
     go_simp
     with_reducible rfl
    rotate_left
    ·simp only [Act.put, sA, sB, sC, i64_w, i32_w]
     rfl
    refine pure_ (i := 3) (N := some 151) (v := ?_) (a' := ?_) (bm 15 16) rfl rfl (any_of HT_.out (by kernel_rfl)) (fun _ _ _ h => h) (Or.inl ⟨by rfl, ?_⟩) ?_ ?_
    rotate_left
    ·intro w'
     go_simp
     with_reducible rfl
    rotate_left
    ·simp only [Act.put, sA, sB, sC, i64_w, i32_w]
     rfl
    refine pure_ (i := 4) (N := some 152) (v := ?_) (a' := ?_) (bm 31 16) rfl rfl (any_of HT_.out (by kernel_rfl)) (fun _ _ _ h => h) (Or.inl ⟨by rfl, ?_⟩) ?_ ?_
    rotate_left
    ·intro w'
     go_simp
     with_reducible rfl
    rotate_left
    ·simp only [Act.put, sA, sB, sC, i64_w, i32_w]
     rfl
    refine pure_ (i := 6) (N := some 154) (v := ?_) (a' := ?_) (bm 95 16) rfl rfl (any_of HT_.out (by kernel_rfl)) (fun _ _ _ h => h) (Or.inl ⟨by rfl, ?_⟩) ?_ ?_
    rotate_left
    ·intro w'
     go_simp
     with_reducible rfl
    rotate_left
    ·simp only [Act.put, sA, sB, sC, i64_w, i32_w]
     rfl
    refine pure_ (i := 7) (N := some 155) (v := ?_) (a' := ?_) (bm 223 16) rfl rfl (any_of HT_.out (by kernel_rfl)) (fun _ _ _ h => h) (Or.inl ⟨by rfl, ?_⟩) ?_ ?_
    rotate_left
    ·intro w'
     go_simp
     with_reducible rfl
    rotate_left
    ·simp only [Act.put, sA, sB, sC, i64_w, i32_w]
     rfl
    refine pure_ (i := 8) (N := some 156) (v := ?_) (a' := ?_) (bm 479 16) rfl rfl (any_of HT_.out (by kernel_rfl)) (fun _ _ _ h => h) (Or.inl ⟨by rfl, ?_⟩) ?_ ?_
    rotate_left
    ·intro w'
     go_simp
     with_reducible rfl
    rotate_left
    ·simp only [Act.put, sA, sB, sC, i64_w, i32_w]
     rfl
    refine pure_ (i := 9) (N := some 157) (v := ?_) (a' := ?_) (bm 991 16) rfl rfl (any_of HT_.out (by kernel_rfl)) (fun _ _ _ h => h) (Or.inl ⟨by rfl, ?_⟩) ?_ ?_
    rotate_left
    ·intro w'
     go_simp
     with_reducible rfl
    rotate_left
    ·simp only [Act.put, sA, sB, sC, i64_w, i32_w]
     rfl
    refine take_ (i := 5) (N := some 153) (v := ?_) (a' := ?_) (bm 1023 16) rfl rfl (take_ofW HT_.out HW_.out (by kernel_rfl)) (fun _ _ _ h => h) (Or.inl ⟨by rfl, ?_⟩) hHeld ?_ ?_
    rotate_left
    ·rintro w' ⟨s0, s1⟩
     go_simp
     with_reducible rfl
    rotate_left
    ·simp only [Act.put, sA, sB, sC, i64_w, i32_w]
     rfl
    refine take_ (i := 10) (N := some 158) (v := ?_) (a' := ?_) (bm 2047 16) rfl rfl (take_ofW HT_.out HW_.out (by kernel_rfl)) (fun _ _ _ h => h) (Or.inl ⟨by rfl, ?_⟩) hHeld ?_ ?_
    rotate_left
    ·rintro w' ⟨s0, s1⟩
     go_simp
     with_reducible rfl
    rotate_left
    ·simp only [Act.put, sA, sB, sC, i64_w, i32_w]
     rfl
    refine one_ (i := 11) (N := some 159) (bm 4095 16) rfl rfl (one_of HT_.out (by kernel_rfl)) (by decide) (fun K hK => ?_)
    refine goes_ Try.func80 (by kernel_rfl) rfl #[.slice A7 x.f2.length c7, .slice B7 y.f2.length d7] (by rfl) rfl rfl (by simp only [List.map_toArray, List.map_cons, List.map_nil]; rfl) ?_
    with_reducible refine (attr_Change.calls A7 c7 x.f2 B7 d7 y.f2 ch _ (Kd.C_below HGX.out HBD.out) HLX.out (Kd.C_below HGY.out HBD.out) HLY.out HCH.out).mono ?_
    rintro e w11 ⟨v11, rfl, hR11, hb11⟩
    refine ⟨_, rfl, ?_⟩
    obtain ⟨A11, n11, e11⟩ := Kd.R_slice hR11
    subst e11
    have HR11 := Aside0.mk hR11
    have HF11 := Aside0.mk (new_F hR11 HND.out)
    have HB11 := Aside0.mk (below_step HBD.out hb11)
    have HN11 := Aside0.mk (Kd.N_below HND.out hb11)
    clear hR11 hb11
    refine hK.out _ _ ⟨((HB11.out.cell (World.block_lt_of_cell? w3 _ hx2)).trans hx2), ((HB11.out.cell (World.block_lt_of_cell? w3 _ hy2)).trans hy2)⟩ (fun hHeld => ?_)
    clear hK K
    refine norm_ (a' := ?_) ?_ ?_
    rotate_left
    ·show Act.put _ (some 159) _ = _
     simp only [Act.put, sA, sB, sC, i64_w, i32_w]
     rfl
    refine pure_ (i := 12) (N := some 160) (v := ?_) (a' := ?_) (bm 8191 16) rfl rfl (any_of HT_.out (by kernel_rfl)) (fun _ _ _ h => h) (Or.inl ⟨by rfl, ?_⟩) ?_ ?_
    rotate_left
    ·intro w'
     go_simp
     with_reducible rfl
    rotate_left
    ·simp only [Act.put, sA, sB, sC, i64_w, i32_w]
     rfl
    refine last_ (i := 13) (N := some 161) (bm 16383 16) rfl rfl (one_of HT_.out (by kernel_rfl)) (by decide) (fun K hK => ?_)
    refine value_ (w1 := ?_) (v := ?_) (by rfl) rfl ?_ ?_
    rotate_left 2
    ·go_simp
     constructor
     ·rfl
     ·rfl
    refine hK.out _ _ ?_
    clear hK K
    refine norm_ (a' := ?_) ?_ ?_
    rotate_left
    ·show Act.put _ (some 161) _ = _
     simp only [Act.put, sA, sB, sC, i64_w, i32_w]
     rfl
    refine last_ (i := 14) (N := some 162) (bm 32767 16) rfl rfl (one_of HT_.out (by kernel_rfl)) (by decide) (fun K hK => ?_)
    refine Kd.N_append_step k95 (w0 := w3) w3.heap.size (by rfl) (.tmp 148) (.tmp 161) 28 95 (.agg #[.int .i64 0, .int .i64 0, .slice none 0 0, .slice none 0 0]) 64 rfl Try.underlying28 info95 rfl (by decide) (by decide) (.slice A10 out.length n10) out (⟨0, 1, ch, []⟩ : S95) [.int .i64 0, .int .i64 1, .slice A11 ch.length n11, .slice none 0 0] (fun _ => True) (fun k => some k ≠ (Value.slice A10 out.length n10).ownBlock) rfl rfl ?aP (fun _ hk => ⟨trivial, hk⟩) (fun _ _ => trivial) HN11.out HB11.out HB11.out.size ?aL ?_
    (case aP => exact k95_mkF _ _ (⟨0, 1, ch, []⟩ : S95) (Kd.R_reads' HR11.out).2.1 HF11.out (Nat.le_refl _) (Kd.F_nil _ _ _))
    (case aL => have := HI.out.2.2; omega)
    intro v14 w14 hN14 hb14 _ _
    have HN14 := Aside0.mk hN14
    have HB14 := Aside0.mk hb14
    clear hN14 hb14
    refine hK.out _ _ ?_
    clear hK K
    refine norm_ (a' := ?_) ?_ ?_
    rotate_left
    ·show Act.put _ (some 162) _ = _
     simp only [Act.put, sA, sB, sC, i64_w, i32_w]
     rfl
    refine pure_ (i := 15) (N := some 10) (v := ?_) (a' := ?_) (bm 65535 16) rfl rfl (any_of HT_.out (by kernel_rfl)) (fun _ _ _ h => h) (Or.inl ⟨by rfl, ?_⟩) ?_ ?_
    rotate_left
    ·intro w'
     go_simp
     with_reducible rfl
    rotate_left
    ·simp only [Act.put, sA, sB, sC, i64_w, i32_w]
     rfl
    refine done_ (done_of HT_.out (by kernel_rfl)) ?_
    go_wp2
    go_roundg gl
    case measure => omega
    case rel => exact ⟨i + 1, j + 1, _, by simp, by simp, HIX, HN14, HB14, HLN⟩
  | false =>
  rw [if_neg (by decide)] at hL
  obtain ⟨q2, hq2, hL⟩ := Option.bind_eq_some_iff.1 hL
  have HQ2 := Aside0.mk hq2
  have HLN := Aside0.mk hL
  clear hq2 hL HLQ HQ
  go_upto_region 16 with (fail)
  go_cut [167] (fun v167 wx => v167 = .bool q2 ∧ Aside0 (Kd.N k95 95 wx w3.heap.size (fun _ => True) (.slice A10 out.length n10) out) ∧ Aside0 (Below w3.heap.size w3 wx))
  case first =>
   as_aux_lemma =>
    have HBD := Aside0.mk (below_drew1 HBR.out)
    have HND := Aside0.mk (Kd.N_drew HN.out)
    have hq2 := HQ2.out
    clear HBR HN HQ2 HLN
    by_cases ci : i < a2.length
    rotate_left
    ·rw [if_neg ci] at hq2
     injection hq2 with hq2
     subst hq2
     have g1 : decide ((i : Int) < (a2.length : Int)) = false := decide_eq_false (by omega)
     have g1' : decide (i < a2.length) = false := decide_eq_false ci
     clear ci
     refine start_ (n := 30) (S := fun w' => True) (ds := []) #[false, false, false, false, false, false, false, false, false, false, false, false, false, false, false, false, false, false, false, false, false, false, false, false, false, false, false, false, false, false] (by kernel_rfl) rfl rfl trivial (fun hHeld => ?_)
     refine with_tabW raw100.tab16 raw100.bits16 (fun HT_ HW_ => ?_)
     refine pure_ (i := 0) (N := some 168) (v := ?_) (a' := ?_) (bm 1 30) rfl rfl (any_of HT_.out (by kernel_rfl)) (fun _ _ _ h => h) (Or.inl ⟨by rfl, ?_⟩) ?_ ?_
     rotate_left
     ·intro w'
      go_simp
      with_reducible rfl
     rotate_left
     ·simp only [Act.put, sA, sB, sC, i64_w, i32_w]
      rfl
     refine pure_ (i := 1) (N := some 169) (v := ?_) (a' := ?_) (bm 3 30) rfl rfl (any_of HT_.out (by kernel_rfl)) (fun _ _ _ h => h) (Or.inl ⟨by rfl, ?_⟩) ?_ ?_
     rotate_left
     ·intro w'
      go_simp
      with_reducible rfl
     rotate_left
     ·simp only [Act.put, sA, sB, sC, i64_w, i32_w]
      rfl
     refine pure_ (i := 2) (N := some 170) (v := ?_) (a' := ?_) (bm 7 30) rfl rfl (any_of HT_.out (by kernel_rfl)) (fun _ _ _ h => h) (Or.inl ⟨by rfl, ?_⟩) ?_ ?_
     rotate_left
     ·intro w'
      go_simp
      with_reducible rfl
     rotate_left
     ·simp only [Act.put, sA, sB, sC, i64_w, i32_w]
      rfl
     refine pure_ (i := 3) (N := some 171) (v := ?_) (a' := ?_) (bm 15 30) rfl rfl (any_of HT_.out (by kernel_rfl)) (fun _ _ _ h => h) (Or.inl ⟨by rfl, ?_⟩) ?_ ?_
     rotate_left
     ·intro w'
      go_simp
      with_reducible rfl
     rotate_left
     ·simp only [Act.put, sA, sB, sC, i64_w, i32_w]
      rfl
     refine pure_ (i := 4) (N := some 172) (v := ?_) (a' := ?_) (bm 31 30) rfl rfl (any_of HT_.out (by kernel_rfl)) (fun _ _ _ h => h) (Or.inl ⟨by rfl, ?_⟩) ?_ ?_
     rotate_left
     ·intro w'
      go_simp
      with_reducible rfl
     rotate_left
     ·simp only [Act.put, sA, sB, sC, i64_w, i32_w]
      rfl
     refine pure_ (i := 5) (N := some 173) (v := undef) (a' := ?_) (bm 63 30) rfl rfl (any_of HT_.out (by kernel_rfl)) (fun _ _ _ h => h) (Or.inr ⟨by rfl, rfl⟩) ?_ ?_
     rotate_left
     ·simp only [Act.put, sA, sB, sC, i64_w, i32_w]
      rfl
     refine pure_ (i := 6) (N := some 174) (v := undef) (a' := ?_) (bm 127 30) rfl rfl (any_of HT_.out (by kernel_rfl)) (fun _ _ _ h => h) (Or.inr ⟨by rfl, rfl⟩) ?_ ?_
     rotate_left
     ·simp only [Act.put, sA, sB, sC, i64_w, i32_w]
      rfl
     refine pure_ (i := 7) (N := some 175) (v := undef) (a' := ?_) (bm 255 30) rfl rfl (any_of HT_.out (by kernel_rfl)) (fun _ _ _ h => h) (Or.inr ⟨by rfl, rfl⟩) ?_ ?_
     rotate_left
     ·simp only [Act.put, sA, sB, sC, i64_w, i32_w]
      rfl
     refine pure_ (i := 8) (N := some 176) (v := undef) (a' := ?_) (bm 511 30) rfl rfl (any_of HT_.out (by kernel_rfl)) (fun _ _ _ h => h) (Or.inr ⟨by rfl, rfl⟩) ?_ ?_
     rotate_left
     ·simp only [Act.put, sA, sB, sC, i64_w, i32_w]
      rfl
     refine pure_ (i := 9) (N := some 177) (v := undef) (a' := ?_) (bm 1023 30) rfl rfl (any_of HT_.out (by kernel_rfl)) (fun _ _ _ h => h) (Or.inr ⟨by rfl, rfl⟩) ?_ ?_
     rotate_left
     ·simp only [Act.put, sA, sB, sC, i64_w, i32_w]
      rfl
     refine pure_ (i := 10) (N := some 178) (v := undef) (a' := ?_) (bm 2047 30) rfl rfl (any_of HT_.out (by kernel_rfl)) (fun _ _ _ h => h) (Or.inr ⟨by rfl, rfl⟩) ?_ ?_
     rotate_left
     ·simp only [Act.put, sA, sB, sC, i64_w, i32_w]
      rfl
     refine pure_ (i := 11) (N := some 179) (v := undef) (a' := ?_) (bm 4095 30) rfl rfl (any_of HT_.out (by kernel_rfl)) (fun _ _ _ h => h) (Or.inr ⟨by rfl, rfl⟩) ?_ ?_
     rotate_left
     ·simp only [Act.put, sA, sB, sC, i64_w, i32_w]
      rfl
     refine pure_ (i := 12) (N := some 180) (v := undef) (a' := ?_) (bm 8191 30) rfl rfl (any_of HT_.out (by kernel_rfl)) (fun _ _ _ h => h) (Or.inr ⟨by rfl, rfl⟩) ?_ ?_
     rotate_left
     ·simp only [Act.put, sA, sB, sC, i64_w, i32_w]
      rfl
     refine pure_ (i := 13) (N := some 181) (v := undef) (a' := ?_) (bm 16383 30) rfl rfl (any_of HT_.out (by kernel_rfl)) (fun _ _ _ h => h) (Or.inr ⟨by rfl, rfl⟩) ?_ ?_
     rotate_left
     ·simp only [Act.put, sA, sB, sC, i64_w, i32_w]
      rfl
     refine pure_ (i := 14) (N := some 182) (v := undef) (a' := ?_) (bm 32767 30) rfl rfl (any_of HT_.out (by kernel_rfl)) (fun _ _ _ h => h) (Or.inr ⟨by rfl, rfl⟩) ?_ ?_
     rotate_left
     ·simp only [Act.put, sA, sB, sC, i64_w, i32_w]
      rfl
     refine pure_ (i := 15) (N := some 183) (v := undef) (a' := ?_) (bm 65535 30) rfl rfl (any_of HT_.out (by kernel_rfl)) (fun _ _ _ h => h) (Or.inr ⟨by rfl, rfl⟩) ?_ ?_
     rotate_left
     ·simp only [Act.put, sA, sB, sC, i64_w, i32_w]
      rfl
     refine pure_ (i := 16) (N := some 184) (v := undef) (a' := ?_) (bm 131071 30) rfl rfl (any_of HT_.out (by kernel_rfl)) (fun _ _ _ h => h) (Or.inr ⟨by rfl, rfl⟩) ?_ ?_
     rotate_left
     ·simp only [Act.put, sA, sB, sC, i64_w, i32_w]
      rfl
     refine pure_ (i := 17) (N := some 185) (v := undef) (a' := ?_) (bm 262143 30) rfl rfl (any_of HT_.out (by kernel_rfl)) (fun _ _ _ h => h) (Or.inr ⟨by rfl, rfl⟩) ?_ ?_
     rotate_left
     ·simp only [Act.put, sA, sB, sC, i64_w, i32_w]
      rfl
     refine pure_ (i := 18) (N := some 186) (v := undef) (a' := ?_) (bm 524287 30) rfl rfl (any_of HT_.out (by kernel_rfl)) (fun _ _ _ h => h) (Or.inr ⟨by rfl, rfl⟩) ?_ ?_
     rotate_left
     ·simp only [Act.put, sA, sB, sC, i64_w, i32_w]
      rfl
     refine pure_ (i := 19) (N := some 187) (v := undef) (a' := ?_) (bm 1048575 30) rfl rfl (any_of HT_.out (by kernel_rfl)) (fun _ _ _ h => h) (Or.inr ⟨by rfl, rfl⟩) ?_ ?_
     rotate_left
     ·simp only [Act.put, sA, sB, sC, i64_w, i32_w]
      rfl
     refine pure_ (i := 20) (N := some 188) (v := undef) (a' := ?_) (bm 2097151 30) rfl rfl (any_of HT_.out (by kernel_rfl)) (fun _ _ _ h => h) (Or.inr ⟨by rfl, rfl⟩) ?_ ?_
     rotate_left
     ·simp only [Act.put, sA, sB, sC, i64_w, i32_w]
      rfl
     refine pure_ (i := 21) (N := some 189) (v := undef) (a' := ?_) (bm 4194303 30) rfl rfl (any_of HT_.out (by kernel_rfl)) (fun _ _ _ h => h) (Or.inr ⟨by rfl, rfl⟩) ?_ ?_
     rotate_left
     ·simp only [Act.put, sA, sB, sC, i64_w, i32_w]
      rfl
     refine pure_ (i := 22) (N := some 190) (v := undef) (a' := ?_) (bm 8388607 30) rfl rfl (any_of HT_.out (by kernel_rfl)) (fun _ _ _ h => h) (Or.inr ⟨by rfl, rfl⟩) ?_ ?_
     rotate_left
     ·simp only [Act.put, sA, sB, sC, i64_w, i32_w]
      rfl
     refine pure_ (i := 23) (N := some 191) (v := undef) (a' := ?_) (bm 16777215 30) rfl rfl (any_of HT_.out (by kernel_rfl)) (fun _ _ _ h => h) (Or.inr ⟨by rfl, rfl⟩) ?_ ?_
     rotate_left
     ·simp only [Act.put, sA, sB, sC, i64_w, i32_w]
      rfl
     refine pure_ (i := 24) (N := some 192) (v := undef) (a' := ?_) (bm 33554431 30) rfl rfl (any_of HT_.out (by kernel_rfl)) (fun _ _ _ h => h) (Or.inr ⟨by rfl, rfl⟩) ?_ ?_
     rotate_left
     ·simp only [Act.put, sA, sB, sC, i64_w, i32_w]
      rfl
     refine pure_ (i := 25) (N := some 193) (v := undef) (a' := ?_) (bm 67108863 30) rfl rfl (any_of HT_.out (by kernel_rfl)) (fun _ _ _ h => h) (Or.inr ⟨by rfl, rfl⟩) ?_ ?_
     rotate_left
     ·simp only [Act.put, sA, sB, sC, i64_w, i32_w]
      rfl
     refine pure_ (i := 26) (N := some 194) (v := undef) (a' := ?_) (bm 134217727 30) rfl rfl (any_of HT_.out (by kernel_rfl)) (fun _ _ _ h => h) (Or.inr ⟨by rfl, rfl⟩) ?_ ?_
     rotate_left
     ·simp only [Act.put, sA, sB, sC, i64_w, i32_w]
      rfl
     refine pure_ (i := 27) (N := some 195) (v := undef) (a' := ?_) (bm 268435455 30) rfl rfl (any_of HT_.out (by kernel_rfl)) (fun _ _ _ h => h) (Or.inr ⟨by rfl, rfl⟩) ?_ ?_
     rotate_left
     ·simp only [Act.put, sA, sB, sC, i64_w, i32_w]
      rfl
     refine pure_ (i := 28) (N := some 196) (v := ?_) (a' := ?_) (bm 536870911 30) rfl rfl (any_of HT_.out (by kernel_rfl)) (fun _ _ _ h => h) (Or.inl ⟨by rfl, ?_⟩) ?_ ?_
     rotate_left
     ·intro w'
      go_simp
      with_reducible rfl
     rotate_left
     ·simp only [Act.put, sA, sB, sC, i64_w, i32_w]
      rfl
     refine pure_ (i := 29) (N := some 167) (v := ?_) (a' := ?_) (bm 1073741823 30) rfl rfl (any_of HT_.out (by kernel_rfl)) (fun _ _ _ h => h) (Or.inl ⟨by rfl, ?_⟩) ?_ ?_
     rotate_left
     ·intro w'
      go_simp
      with_reducible rfl
     rotate_left
     ·simp only [Act.put, sA, sB, sC, i64_w, i32_w]
      rfl
     refine done_ (done_of HT_.out (by kernel_rfl)) ?_
     go_wp2
     go_meet
     case rel => exact ⟨rfl, HND, HBD⟩
    have g1 : decide ((i : Int) < (a2.length : Int)) = true := decide_eq_true (by omega)
    have g1' : decide (i < a2.length) = true := decide_eq_true ci
    rw [if_pos ci] at hq2
    by_cases cj : j = b2.length
    ·rw [if_pos cj] at hq2
     injection hq2 with hq2
     subst hq2
     have g2 : ((j : Int) == (b2.length : Int)) = true := beq_iff_eq.mpr (by omega)
     have g2' : (j == b2.length) = true := beq_iff_eq.mpr cj
     clear ci cj
     refine start_ (n := 30) (S := fun w' => True) (ds := []) #[false, false, false, false, false, false, false, false, false, false, false, false, false, false, false, false, false, false, false, false, false, false, false, false, false, false, false, false, false, false] (by kernel_rfl) rfl rfl trivial (fun hHeld => ?_)
     refine with_tabW raw100.tab16 raw100.bits16 (fun HT_ HW_ => ?_)
     refine pure_ (i := 0) (N := some 168) (v := ?_) (a' := ?_) (bm 1 30) rfl rfl (any_of HT_.out (by kernel_rfl)) (fun _ _ _ h => h) (Or.inl ⟨by rfl, ?_⟩) ?_ ?_
     rotate_left
     ·intro w'
      go_simp
      with_reducible rfl
     rotate_left
     ·simp only [Act.put, sA, sB, sC, i64_w, i32_w]
      rfl
     refine pure_ (i := 1) (N := some 169) (v := ?_) (a' := ?_) (bm 3 30) rfl rfl (any_of HT_.out (by kernel_rfl)) (fun _ _ _ h => h) (Or.inl ⟨by rfl, ?_⟩) ?_ ?_
     rotate_left
     ·intro w'
      go_simp
      with_reducible rfl
     rotate_left
     ·simp only [Act.put, sA, sB, sC, i64_w, i32_w]
      rfl
     refine pure_ (i := 2) (N := some 170) (v := ?_) (a' := ?_) (bm 7 30) rfl rfl (any_of HT_.out (by kernel_rfl)) (fun _ _ _ h => h) (Or.inl ⟨by rfl, ?_⟩) ?_ ?_
     rotate_left
     ·intro w'
      go_simp
      with_reducible rfl
     rotate_left
     ·simp only [Act.put, sA, sB, sC, i64_w, i32_w]
      rfl
     refine pure_ (i := 3) (N := some 171) (v := ?_) (a' := ?_) (bm 15 30) rfl rfl (any_of HT_.out (by kernel_rfl)) (fun _ _ _ h => h) (Or.inl ⟨by rfl, ?_⟩) ?_ ?_
     rotate_left
     ·intro w'
      go_simp
      with_reducible rfl
     rotate_left
     ·simp only [Act.put, sA, sB, sC, i64_w, i32_w]
      rfl
     refine pure_ (i := 4) (N := some 172) (v := ?_) (a' := ?_) (bm 31 30) rfl rfl (any_of HT_.out (by kernel_rfl)) (fun _ _ _ h => h) (Or.inl ⟨by rfl, ?_⟩) ?_ ?_
     rotate_left
     ·intro w'
      go_simp
      with_reducible rfl
     rotate_left
     ·simp only [Act.put, sA, sB, sC, i64_w, i32_w]
      rfl
     refine pure_ (i := 5) (N := some 173) (v := ?_) (a' := ?_) (bm 63 30) rfl rfl (any_of HT_.out (by kernel_rfl)) (fun _ _ _ h => h) (Or.inl ⟨by rfl, ?_⟩) ?_ ?_
     rotate_left
     ·intro w'
      go_simp
      with_reducible rfl
     rotate_left
     ·simp only [Act.put, sA, sB, sC, i64_w, i32_w]
      rfl
     refine pure_ (i := 6) (N := some 174) (v := ?_) (a' := ?_) (bm 127 30) rfl rfl (any_of HT_.out (by kernel_rfl)) (fun _ _ _ h => h) (Or.inl ⟨by rfl, ?_⟩) ?_ ?_
     rotate_left
     ·intro w'
      go_simp
      with_reducible rfl
     rotate_left
     ·simp only [Act.put, sA, sB, sC, i64_w, i32_w]
      rfl
     refine pure_ (i := 7) (N := some 175) (v := ?_) (a' := ?_) (bm 255 30) rfl rfl (any_of HT_.out (by kernel_rfl)) (fun _ _ _ h => h) (Or.inl ⟨by rfl, ?_⟩) ?_ ?_
     rotate_left
     ·intro w'
      go_simp
      with_reducible rfl
     rotate_left
     ·simp only [Act.put, sA, sB, sC, i64_w, i32_w]
      rfl
     refine pure_ (i := 8) (N := some 176) (v := ?_) (a' := ?_) (bm 511 30) rfl rfl (any_of HT_.out (by kernel_rfl)) (fun _ _ _ h => h) (Or.inl ⟨by rfl, ?_⟩) ?_ ?_
     rotate_left
     ·intro w'
      go_simp
      with_reducible rfl
     rotate_left
     ·simp only [Act.put, sA, sB, sC, i64_w, i32_w]
      rfl
     refine pure_ (i := 9) (N := some 177) (v := ?_) (a' := ?_) (bm 1023 30) rfl rfl (any_of HT_.out (by kernel_rfl)) (fun _ _ _ h => h) (Or.inl ⟨by rfl, ?_⟩) ?_ ?_
     rotate_left
     ·intro w'
      go_simp
      with_reducible rfl
     rotate_left
     ·simp only [Act.put, sA, sB, sC, i64_w, i32_w]
      rfl
     refine pure_ (i := 10) (N := some 178) (v := undef) (a' := ?_) (bm 2047 30) rfl rfl (any_of HT_.out (by kernel_rfl)) (fun _ _ _ h => h) (Or.inr ⟨by rfl, rfl⟩) ?_ ?_
     rotate_left
     ·simp only [Act.put, sA, sB, sC, i64_w, i32_w]
      rfl
     refine pure_ (i := 11) (N := some 179) (v := undef) (a' := ?_) (bm 4095 30) rfl rfl (any_of HT_.out (by kernel_rfl)) (fun _ _ _ h => h) (Or.inr ⟨by rfl, rfl⟩) ?_ ?_
     rotate_left
     ·simp only [Act.put, sA, sB, sC, i64_w, i32_w]
      rfl
     refine pure_ (i := 12) (N := some 180) (v := undef) (a' := ?_) (bm 8191 30) rfl rfl (any_of HT_.out (by kernel_rfl)) (fun _ _ _ h => h) (Or.inr ⟨by rfl, rfl⟩) ?_ ?_
     rotate_left
     ·simp only [Act.put, sA, sB, sC, i64_w, i32_w]
      rfl
     refine pure_ (i := 13) (N := some 181) (v := undef) (a' := ?_) (bm 16383 30) rfl rfl (any_of HT_.out (by kernel_rfl)) (fun _ _ _ h => h) (Or.inr ⟨by rfl, rfl⟩) ?_ ?_
     rotate_left
     ·simp only [Act.put, sA, sB, sC, i64_w, i32_w]
      rfl
     refine pure_ (i := 14) (N := some 182) (v := undef) (a' := ?_) (bm 32767 30) rfl rfl (any_of HT_.out (by kernel_rfl)) (fun _ _ _ h => h) (Or.inr ⟨by rfl, rfl⟩) ?_ ?_
     rotate_left
     ·simp only [Act.put, sA, sB, sC, i64_w, i32_w]
      rfl
     refine pure_ (i := 15) (N := some 183) (v := undef) (a' := ?_) (bm 65535 30) rfl rfl (any_of HT_.out (by kernel_rfl)) (fun _ _ _ h => h) (Or.inr ⟨by rfl, rfl⟩) ?_ ?_
     rotate_left
     ·simp only [Act.put, sA, sB, sC, i64_w, i32_w]
      rfl
     refine pure_ (i := 16) (N := some 184) (v := undef) (a' := ?_) (bm 131071 30) rfl rfl (any_of HT_.out (by kernel_rfl)) (fun _ _ _ h => h) (Or.inr ⟨by rfl, rfl⟩) ?_ ?_
     rotate_left
     ·simp only [Act.put, sA, sB, sC, i64_w, i32_w]
      rfl
     refine pure_ (i := 17) (N := some 185) (v := undef) (a' := ?_) (bm 262143 30) rfl rfl (any_of HT_.out (by kernel_rfl)) (fun _ _ _ h => h) (Or.inr ⟨by rfl, rfl⟩) ?_ ?_
     rotate_left
     ·simp only [Act.put, sA, sB, sC, i64_w, i32_w]
      rfl
     refine pure_ (i := 18) (N := some 186) (v := undef) (a' := ?_) (bm 524287 30) rfl rfl (any_of HT_.out (by kernel_rfl)) (fun _ _ _ h => h) (Or.inr ⟨by rfl, rfl⟩) ?_ ?_
     rotate_left
     ·simp only [Act.put, sA, sB, sC, i64_w, i32_w]
      rfl
     refine pure_ (i := 19) (N := some 187) (v := undef) (a' := ?_) (bm 1048575 30) rfl rfl (any_of HT_.out (by kernel_rfl)) (fun _ _ _ h => h) (Or.inr ⟨by rfl, rfl⟩) ?_ ?_
     rotate_left
     ·simp only [Act.put, sA, sB, sC, i64_w, i32_w]
      rfl
     refine pure_ (i := 20) (N := some 188) (v := undef) (a' := ?_) (bm 2097151 30) rfl rfl (any_of HT_.out (by kernel_rfl)) (fun _ _ _ h => h) (Or.inr ⟨by rfl, rfl⟩) ?_ ?_
     rotate_left
     ·simp only [Act.put, sA, sB, sC, i64_w, i32_w]
      rfl
     refine pure_ (i := 21) (N := some 189) (v := undef) (a' := ?_) (bm 4194303 30) rfl rfl (any_of HT_.out (by kernel_rfl)) (fun _ _ _ h => h) (Or.inr ⟨by rfl, rfl⟩) ?_ ?_
     rotate_left
     ·simp only [Act.put, sA, sB, sC, i64_w, i32_w]
      rfl
     refine pure_ (i := 22) (N := some 190) (v := undef) (a' := ?_) (bm 8388607 30) rfl rfl (any_of HT_.out (by kernel_rfl)) (fun _ _ _ h => h) (Or.inr ⟨by rfl, rfl⟩) ?_ ?_
     rotate_left
     ·simp only [Act.put, sA, sB, sC, i64_w, i32_w]
      rfl
     refine pure_ (i := 23) (N := some 191) (v := undef) (a' := ?_) (bm 16777215 30) rfl rfl (any_of HT_.out (by kernel_rfl)) (fun _ _ _ h => h) (Or.inr ⟨by rfl, rfl⟩) ?_ ?_
     rotate_left
     ·simp only [Act.put, sA, sB, sC, i64_w, i32_w]
      rfl
     refine pure_ (i := 24) (N := some 192) (v := undef) (a' := ?_) (bm 33554431 30) rfl rfl (any_of HT_.out (by kernel_rfl)) (fun _ _ _ h => h) (Or.inr ⟨by rfl, rfl⟩) ?_ ?_
     rotate_left
     ·simp only [Act.put, sA, sB, sC, i64_w, i32_w]
      rfl
     refine pure_ (i := 25) (N := some 193) (v := undef) (a' := ?_) (bm 67108863 30) rfl rfl (any_of HT_.out (by kernel_rfl)) (fun _ _ _ h => h) (Or.inr ⟨by rfl, rfl⟩) ?_ ?_
     rotate_left
     ·simp only [Act.put, sA, sB, sC, i64_w, i32_w]
      rfl
     refine pure_ (i := 26) (N := some 194) (v := undef) (a' := ?_) (bm 134217727 30) rfl rfl (any_of HT_.out (by kernel_rfl)) (fun _ _ _ h => h) (Or.inr ⟨by rfl, rfl⟩) ?_ ?_
     rotate_left
     ·simp only [Act.put, sA, sB, sC, i64_w, i32_w]
      rfl
     refine pure_ (i := 27) (N := some 195) (v := ?_) (a' := ?_) (bm 268435455 30) rfl rfl (any_of HT_.out (by kernel_rfl)) (fun _ _ _ h => h) (Or.inl ⟨by rfl, ?_⟩) ?_ ?_
     rotate_left
     ·intro w'
      go_simp
      with_reducible rfl
     rotate_left
     ·simp only [Act.put, sA, sB, sC, i64_w, i32_w]
      rfl
     refine pure_ (i := 28) (N := some 196) (v := ?_) (a' := ?_) (bm 536870911 30) rfl rfl (any_of HT_.out (by kernel_rfl)) (fun _ _ _ h => h) (Or.inl ⟨by rfl, ?_⟩) ?_ ?_
     rotate_left
     ·intro w'
      go_simp
      with_reducible rfl
     rotate_left
     ·simp only [Act.put, sA, sB, sC, i64_w, i32_w]
      rfl
     refine pure_ (i := 29) (N := some 167) (v := ?_) (a' := ?_) (bm 1073741823 30) rfl rfl (any_of HT_.out (by kernel_rfl)) (fun _ _ _ h => h) (Or.inl ⟨by rfl, ?_⟩) ?_ ?_
     rotate_left
     ·intro w'
      go_simp
      with_reducible rfl
     rotate_left
     ·simp only [Act.put, sA, sB, sC, i64_w, i32_w]
      rfl
     refine done_ (done_of HT_.out (by kernel_rfl)) ?_
     go_wp2
     go_meet
     case rel => exact ⟨rfl, HND, HBD⟩
    rw [if_neg cj] at hq2
    have g2 : ((j : Int) == (b2.length : Int)) = false := beq_eq_false_iff_ne.mpr (by omega)
    have g2' : (j == b2.length) = false := beq_eq_false_iff_ne.mpr cj
    obtain ⟨c1_, hc1, hq2⟩ := Option.bind_eq_some_iff.1 hq2
    obtain ⟨c2_, hc2, hq2⟩ := Option.bind_eq_some_iff.1 hq2
    injection hq2 with hq2
    have HQQ := Aside0.mk hq2
    obtain ⟨i1, hi1'⟩ : ∃ n : Nat, n = i + 1 := ⟨_, rfl⟩
    have wi : wrap64 ((i : Int) + 1) = (i1 : Int) := by rw [w64 (by omega) (by omega)]; omega
    rw [wi] at hc2
    obtain ⟨⟨_, k1, _, k2⟩, k3⟩ := cellT_some hc1
    obtain ⟨⟨_, k4, _, k5⟩, k6⟩ := cellT_some hc2
    obtain ⟨td, E8, e8, et, hr0, hle, hre⟩ := at_L10 HT3.out (i : Int) (Int.natCast_nonneg _) k1
    subst et
    obtain ⟨re, er, hr1⟩ := Kd.at_int hre (j : Int) (Int.natCast_nonneg _) k2
    subst er
    obtain ⟨td', F8, f8, et, hr2, hlf, hrf⟩ := at_L10 HT3.out (i1 : Int) (Int.natCast_nonneg _) k4
    obtain rfl : td = td' := Option.some.inj et
    obtain ⟨rf, ef, hr3⟩ := Kd.at_int hrf (j : Int) (Int.natCast_nonneg _) k5
    subst ef
    rw [k3] at hr1
    rw [k6] at hr3
    simp only [Int.toNat_natCast] at hr0 hr1 hr2 hr3
    have q1 : (i : Int) < (a2.length : Int) := by omega
    clear hc1 hc2 hq2 et hre hle hrf hlf k3 k6 hi1' hm1 hm2 hi1 hi2 ci cj
    refine start_ (n := 30) (S := fun w' => w'.cell? (td.add i) = some (.slice (some re) (rd_L10 t (i : Int)).length e8) ∧ w'.cell? (re.add j) = some (.int .i64 c1_) ∧ w'.cell? (td.add i1) = some (.slice (some rf) (rd_L10 t (i1 : Int)).length f8) ∧ w'.cell? (rf.add j) = some (.int .i64 c2_)) (ds := []) #[false, false, false, false, false, false, false, false, false, false, false, false, false, false, false, false, false, false, false, false, false, false, false, false, false, false, false, false, false, false] (by kernel_rfl) rfl rfl ⟨((HBD.out.cell (World.block_lt_of_cell? w3 _ hr0)).trans hr0), ((HBD.out.cell (World.block_lt_of_cell? w3 _ hr1)).trans hr1), ((HBD.out.cell (World.block_lt_of_cell? w3 _ hr2)).trans hr2), ((HBD.out.cell (World.block_lt_of_cell? w3 _ hr3)).trans hr3)⟩ (fun hHeld => ?_)
    refine with_tabW raw100.tab16 raw100.bits16 (fun HT_ HW_ => ?_)
    refine pure_ (i := 0) (N := some 168) (v := ?_) (a' := ?_) (bm 1 30) rfl rfl (any_of HT_.out (by kernel_rfl)) (fun _ _ _ h => h) (Or.inl ⟨by rfl, ?_⟩) ?_ ?_
    rotate_left
    ·intro w'
     go_simp
     with_reducible rfl
    rotate_left
    ·simp only [Act.put, sA, sB, sC, i64_w, i32_w]
     rfl
    refine pure_ (i := 1) (N := some 169) (v := ?_) (a' := ?_) (bm 3 30) rfl rfl (any_of HT_.out (by kernel_rfl)) (fun _ _ _ h => h) (Or.inl ⟨by rfl, ?_⟩) ?_ ?_
    rotate_left
    ·intro w'
     go_simp
     with_reducible rfl
    rotate_left
    ·simp only [Act.put, sA, sB, sC, i64_w, i32_w]
     rfl
    refine pure_ (i := 2) (N := some 170) (v := ?_) (a' := ?_) (bm 7 30) rfl rfl (any_of HT_.out (by kernel_rfl)) (fun _ _ _ h => h) (Or.inl ⟨by rfl, ?_⟩) ?_ ?_
    rotate_left
    ·intro w'
     go_simp
     with_reducible rfl
    rotate_left
    ·simp only [Act.put, sA, sB, sC, i64_w, i32_w]
     rfl
    refine pure_ (i := 3) (N := some 171) (v := ?_) (a' := ?_) (bm 15 30) rfl rfl (any_of HT_.out (by kernel_rfl)) (fun _ _ _ h => h) (Or.inl ⟨by rfl, ?_⟩) ?_ ?_
    rotate_left
    ·intro w'
     go_simp
     with_reducible rfl
    rotate_left
    ·simp only [Act.put, sA, sB, sC, i64_w, i32_w]
     rfl
    refine pure_ (i := 4) (N := some 172) (v := ?_) (a' := ?_) (bm 31 30) rfl rfl (any_of HT_.out (by kernel_rfl)) (fun _ _ _ h => h) (Or.inl ⟨by rfl, ?_⟩) ?_ ?_
    rotate_left
    ·intro w'
     go_simp
     with_reducible rfl
    rotate_left
    ·simp only [Act.put, sA, sB, sC, i64_w, i32_w]
     rfl
    refine pure_ (i := 5) (N := some 173) (v := ?_) (a' := ?_) (bm 63 30) rfl rfl (any_of HT_.out (by kernel_rfl)) (fun _ _ _ h => h) (Or.inl ⟨by rfl, ?_⟩) ?_ ?_
    rotate_left
    ·intro w'
     go_simp
     with_reducible rfl
    rotate_left
    ·simp only [Act.put, sA, sB, sC, i64_w, i32_w]
     rfl
    refine pure_ (i := 6) (N := some 174) (v := ?_) (a' := ?_) (bm 127 30) rfl rfl (any_of HT_.out (by kernel_rfl)) (fun _ _ _ h => h) (Or.inl ⟨by rfl, ?_⟩) ?_ ?_
    rotate_left
    ·intro w'
     go_simp
     with_reducible rfl
    rotate_left
    ·simp only [Act.put, sA, sB, sC, i64_w, i32_w]
     rfl
    refine pure_ (i := 7) (N := some 175) (v := ?_) (a' := ?_) (bm 255 30) rfl rfl (any_of HT_.out (by kernel_rfl)) (fun _ _ _ h => h) (Or.inl ⟨by rfl, ?_⟩) ?_ ?_
    rotate_left
    ·intro w'
     go_simp
     with_reducible rfl
    rotate_left
    ·simp only [Act.put, sA, sB, sC, i64_w, i32_w]
     rfl
    refine pure_ (i := 8) (N := some 176) (v := ?_) (a' := ?_) (bm 511 30) rfl rfl (any_of HT_.out (by kernel_rfl)) (fun _ _ _ h => h) (Or.inl ⟨by rfl, ?_⟩) ?_ ?_
    rotate_left
    ·intro w'
     go_simp
     with_reducible rfl
    rotate_left
    ·simp only [Act.put, sA, sB, sC, i64_w, i32_w]
     rfl
    refine pure_ (i := 9) (N := some 177) (v := ?_) (a' := ?_) (bm 1023 30) rfl rfl (any_of HT_.out (by kernel_rfl)) (fun _ _ _ h => h) (Or.inl ⟨by rfl, ?_⟩) ?_ ?_
    rotate_left
    ·intro w'
     go_simp
     with_reducible rfl
    rotate_left
    ·simp only [Act.put, sA, sB, sC, i64_w, i32_w]
     rfl
    refine pure_ (i := 10) (N := some 178) (v := ?_) (a' := ?_) (bm 2047 30) rfl rfl (any_of HT_.out (by kernel_rfl)) (fun _ _ _ h => h) (Or.inl ⟨by rfl, ?_⟩) ?_ ?_
    rotate_left
    ·intro w'
     go_simp
     with_reducible rfl
    rotate_left
    ·simp only [Act.put, sA, sB, sC, i64_w, i32_w]
     rfl
    refine pure_ (i := 11) (N := some 179) (v := ?_) (a' := ?_) (bm 4095 30) rfl rfl (any_of HT_.out (by kernel_rfl)) (fun _ _ _ h => h) (Or.inl ⟨by rfl, ?_⟩) ?_ ?_
    rotate_left
    ·intro w'
     go_simp
     with_reducible rfl
    rotate_left
    ·simp only [Act.put, sA, sB, sC, i64_w, i32_w]
     rfl
    refine pure_ (i := 12) (N := some 180) (v := ?_) (a' := ?_) (bm 8191 30) rfl rfl (any_of HT_.out (by kernel_rfl)) (fun _ _ _ h => h) (Or.inl ⟨by rfl, ?_⟩) ?_ ?_
    rotate_left
    ·intro w'
     go_simp
     with_reducible rfl
    rotate_left
    ·simp only [Act.put, sA, sB, sC, i64_w, i32_w]
     rfl
    refine pure_ (i := 14) (N := some 182) (v := ?_) (a' := ?_) (bm 24575 30) rfl rfl (any_of HT_.out (by kernel_rfl)) (fun _ _ _ h => h) (Or.inl ⟨by rfl, ?_⟩) ?_ ?_
    rotate_left
    ·intro w'
     go_simp
     with_reducible rfl
    rotate_left
    ·simp only [Act.put, sA, sB, sC, i64_w, i32_w]
     rfl
    refine pure_ (i := 17) (N := some 185) (v := ?_) (a' := ?_) (bm 155647 30) rfl rfl (any_of HT_.out (by kernel_rfl)) (fun _ _ _ h => h) (Or.inl ⟨by rfl, ?_⟩) ?_ ?_
    rotate_left
    ·intro w'
     go_simp
     with_reducible rfl
    rotate_left
    ·simp only [Act.put, sA, sB, sC, i64_w, i32_w]
     rfl
    refine pure_ (i := 18) (N := some 186) (v := ?_) (a' := ?_) (bm 417791 30) rfl rfl (any_of HT_.out (by kernel_rfl)) (fun _ _ _ h => h) (Or.inl ⟨by rfl, ?_⟩) ?_ ?_
    rotate_left
    ·intro w'
     go_simp
     with_reducible rfl
    rotate_left
    ·simp only [Act.put, sA, sB, sC, i64_w, i32_w]
     rfl
    refine pure_ (i := 19) (N := some 187) (v := ?_) (a' := ?_) (bm 942079 30) rfl rfl (any_of HT_.out (by kernel_rfl)) (fun _ _ _ h => h) (Or.inl ⟨by rfl, ?_⟩) ?_ ?_
    rotate_left
    ·intro w'
     go_simp
     with_reducible rfl
    rotate_left
    ·simp only [Act.put, sA, sB, sC, i64_w, i32_w]
     rfl
    refine pure_ (i := 20) (N := some 188) (v := ?_) (a' := ?_) (bm 1990655 30) rfl rfl (any_of HT_.out (by kernel_rfl)) (fun _ _ _ h => h) (Or.inl ⟨by rfl, ?_⟩) ?_ ?_
    rotate_left
    ·intro w'
     go_simp
     with_reducible rfl
    rotate_left
    ·simp only [Act.put, sA, sB, sC, i64_w, i32_w]
     rfl
    refine pure_ (i := 22) (N := some 190) (v := ?_) (a' := ?_) (bm 6184959 30) rfl rfl (any_of HT_.out (by kernel_rfl)) (fun _ _ _ h => h) (Or.inl ⟨by rfl, ?_⟩) ?_ ?_
    rotate_left
    ·intro w'
     go_simp
     with_reducible rfl
    rotate_left
    ·simp only [Act.put, sA, sB, sC, i64_w, i32_w]
     rfl
    refine take_ (i := 13) (N := some 181) (v := ?_) (a' := ?_) (bm 6193151 30) rfl rfl (take_ofW HT_.out HW_.out (by kernel_rfl)) (fun _ _ _ h => h) (Or.inl ⟨by rfl, ?_⟩) hHeld ?_ ?_
    rotate_left
    ·rintro w' ⟨s0, s1, s2, s3⟩
     go_simp
     with_reducible rfl
    rotate_left
    ·simp only [Act.put, sA, sB, sC, i64_w, i32_w]
     rfl
    refine pure_ (i := 15) (N := some 183) (v := ?_) (a' := ?_) (bm 6225919 30) rfl rfl (any_of HT_.out (by kernel_rfl)) (fun _ _ _ h => h) (Or.inl ⟨by rfl, ?_⟩) ?_ ?_
    rotate_left
    ·intro w'
     go_simp
     with_reducible rfl
    rotate_left
    ·simp only [Act.put, sA, sB, sC, i64_w, i32_w]
     rfl
    refine take_ (i := 16) (N := some 184) (v := ?_) (a' := ?_) (bm 6291455 30) rfl rfl (take_ofW HT_.out HW_.out (by kernel_rfl)) (fun _ _ _ h => h) (Or.inl ⟨by rfl, ?_⟩) hHeld ?_ ?_
    rotate_left
    ·rintro w' ⟨s0, s1, s2, s3⟩
     go_simp
     with_reducible rfl
    rotate_left
    ·simp only [Act.put, sA, sB, sC, i64_w, i32_w]
     rfl
    refine take_ (i := 21) (N := some 189) (v := ?_) (a' := ?_) (bm 8388607 30) rfl rfl (take_ofW HT_.out HW_.out (by kernel_rfl)) (fun _ _ _ h => h) (Or.inl ⟨by rfl, ?_⟩) hHeld ?_ ?_
    rotate_left
    ·rintro w' ⟨s0, s1, s2, s3⟩
     go_simp
     with_reducible rfl
    rotate_left
    ·simp only [Act.put, sA, sB, sC, i64_w, i32_w]
     rfl
    refine pure_ (i := 23) (N := some 191) (v := ?_) (a' := ?_) (bm 16777215 30) rfl rfl (any_of HT_.out (by kernel_rfl)) (fun _ _ _ h => h) (Or.inl ⟨by rfl, ?_⟩) ?_ ?_
    rotate_left
    ·intro w'
     go_simp
     with_reducible rfl
    rotate_left
    ·simp only [Act.put, sA, sB, sC, i64_w, i32_w]
     rfl
    refine take_ (i := 24) (N := some 192) (v := ?_) (a' := ?_) (bm 33554431 30) rfl rfl (take_ofW HT_.out HW_.out (by kernel_rfl)) (fun _ _ _ h => h) (Or.inl ⟨by rfl, ?_⟩) hHeld ?_ ?_
    rotate_left
    ·rintro w' ⟨s0, s1, s2, s3⟩
     go_simp
     with_reducible rfl
    rotate_left
    ·simp only [Act.put, sA, sB, sC, i64_w, i32_w]
     rfl
    refine pure_ (i := 25) (N := some 193) (v := ?_) (a' := ?_) (bm 67108863 30) rfl rfl (any_of HT_.out (by kernel_rfl)) (fun _ _ _ h => h) (Or.inl ⟨by rfl, ?_⟩) ?_ ?_
    rotate_left
    ·intro w'
     go_simp
     with_reducible rfl
    rotate_left
    ·simp only [Act.put, sA, sB, sC, i64_w, i32_w]
     rfl
    refine pure_ (i := 26) (N := some 194) (v := ?_) (a' := ?_) (bm 134217727 30) rfl rfl (any_of HT_.out (by kernel_rfl)) (fun _ _ _ h => h) (Or.inl ⟨by rfl, ?_⟩) ?_ ?_
    rotate_left
    ·intro w'
     go_simp
     with_reducible rfl
    rotate_left
    ·simp only [Act.put, sA, sB, sC, i64_w, i32_w]
     rfl
    refine pure_ (i := 27) (N := some 195) (v := ?_) (a' := ?_) (bm 268435455 30) rfl rfl (any_of HT_.out (by kernel_rfl)) (fun _ _ _ h => h) (Or.inl ⟨by rfl, ?_⟩) ?_ ?_
    rotate_left
    ·intro w'
     go_simp
     with_reducible rfl
    rotate_left
    ·simp only [Act.put, sA, sB, sC, i64_w, i32_w]
     rfl
    refine pure_ (i := 28) (N := some 196) (v := ?_) (a' := ?_) (bm 536870911 30) rfl rfl (any_of HT_.out (by kernel_rfl)) (fun _ _ _ h => h) (Or.inl ⟨by rfl, ?_⟩) ?_ ?_
    rotate_left
    ·intro w'
     go_simp
     with_reducible rfl
    rotate_left
    ·simp only [Act.put, sA, sB, sC, i64_w, i32_w]
     rfl
    refine pure_ (i := 29) (N := some 167) (v := ?_) (a' := ?_) (bm 1073741823 30) rfl rfl (any_of HT_.out (by kernel_rfl)) (fun _ _ _ h => h) (Or.inl ⟨by rfl, ?_⟩) ?_ ?_
    rotate_left
    ·intro w'
     go_simp
     with_reducible rfl
    rotate_left
    ·simp only [Act.put, sA, sB, sC, i64_w, i32_w]
     rfl
    refine done_ (done_of HT_.out (by kernel_rfl)) ?_
    clear wi
    go_wp2
    go_meet
    case rel => exact ⟨by rw [← HQQ.out]; first | rfl | (congr 1; first | rfl | (rw [Bool.eq_iff_iff]; simp)), HND, HBD⟩
  case rest =>
  obtain ⟨rfl, HN2, HBR2⟩ := hcut
  clear HN HBR
  have HN := HN2
  have HBR := HBR2
  clear HN2 HBR2
  have hL := HLN.out
  clear HLN
  cases q2 with
  | true =>
   as_aux_lemma =>
    rw [if_pos rfl] at hL
    have HLN := Aside0.mk hL
    have ci : i < a2.length := by
     have hq := HQ2.out
     by_cases c : i < a2.length
     ·exact c
     ·rw [if_neg c] at hq; cases hq
    have q1 : (i : Int) < (a2.length : Int) := by omega
    have q3 : (a2.length : Int) ≤ 1048576 := by omega
    have HIX := Aside0.mk (show i + 1 ≤ a2.length ∧ j ≤ b2.length ∧ (out ++ [(⟨2, 1, [], []⟩ : S95)]).length + gl ≤ 4194304 from ⟨by have := HI.out; omega, by have := HI.out; omega, by have := HI.out.2.2; rw [List.length_append]; show _ + 1 + gl ≤ _; omega⟩)
    clear hL HQ2 hm1 hm2 hi1 hi2 ci
    go_wp2_with (((with_reducible refine gate_builtin (b := .append) (xs := #[.tmp 197, .tmp 199]) rfl ?_); at_builtin; refine Kd.N_append k95 (w0 := w3) w3.heap.size rfl (.tmp 197) (.tmp 199) 28 95 (.agg #[.int .i64 0, .int .i64 0, .slice none 0 0, .slice none 0 0]) 64 rfl Try.underlying28 info95 rfl (by decide) (by decide) (.slice A10 out.length n10) out (⟨2, 1, [], []⟩ : S95) [.int .i64 2, .int .i64 1, .slice none 0 0, .slice none 0 0] (fun _ => True) (fun k => some k ≠ (Value.slice A10 out.length n10).ownBlock) rfl rfl ?aP (fun _ hk => ⟨trivial, hk⟩) (fun _ _ => trivial) HN.out HBR.out HBR.out.size ?aL ?_; (case aP => exact k95_mkF _ _ (⟨2, 1, [], []⟩ : S95) (Nat.le_refl _) (Kd.F_nil _ _ _) (Nat.le_refl _) (Kd.F_nil _ _ _)); (case aL => have := HI.out.2.2; omega); intro v14 w14 hN14 hb14 _ _; have HN14 := Aside0.mk hN14; have HB14 := Aside0.mk hb14; clear hN14 hb14))
    go_roundg gl
    case measure => omega
    case rel => exact ⟨i + 1, j, _, by simp, rfl, HIX, HN14, HB14, HLN⟩
  | false =>
   rw [if_neg (by decide)] at hL
   have HLN := Aside0.mk hL
   have cj : j < b2.length := by
    have hc := HCC.out
    have hq := HQ2.out
    by_cases c : j < b2.length
    ·exact c
    ·rw [if_pos (show i < a2.length by omega), if_pos (show j = b2.length by omega)] at hq; cases hq
   clear hL HQ2
   have q2 : (j : Int) < (b2.length : Int) := by omega
   have q4 : (b2.length : Int) ≤ 1048576 := by omega
   have HIX := Aside0.mk (show i ≤ a2.length ∧ j + 1 ≤ b2.length ∧ (out ++ [(⟨1, 0, [], [y]⟩ : S95)]).length + gl ≤ 4194304 from ⟨by have := HI.out; omega, by have := HI.out; omega, by have := HI.out.2.2; rw [List.length_append]; show _ + 1 + gl ≤ _; omega⟩)
   obtain ⟨i084, hi084, _, hsz, _⟩ := info_parts info26
   have hlc := HB3.out.2.1
   obtain ⟨BQ, hBQ⟩ : ∃ A, A = (if c1 = j then B2 else B2.map (·.add (j * 3))) := ⟨_, rfl⟩
   have hcm : ∀ W : World, (Instr.slice 22 (.slice B2 b2.length c1) (some (.int .i64 (j : Int))) (some (.int .i64 ((j : Int) + 1))) none).run Try.prog W = .ok (.slice BQ 1 (c1 - j)) W := fun W => by
    have := cut_mid (P := Try.prog) 22 26 .i64 .i64 Try.underlying22 hi084 3 hsz B2 b2.length c1 (j : Int) ((j : Int) + 1) (by omega) (by omega) (by omega) hlc W
    rw [this, Int.toNat_natCast, show ((j : Int) + 1).toNat = j + 1 by omega, hBQ, Nat.add_sub_cancel_left]
   have HFY : Aside0 (Kd.F k26 wc (fun k => some k ≠ (Value.slice A10 out.length n10).ownBlock) BQ ([y] : List S26).length [y]) := ⟨by
    have h1 := Kd.F_take (m := j + 1) (old_F k26_heap HB3.out.1 HN.out HBR.out) (by omega)
    have h2 := Kd.F_cut (m := j) (c := c1) h1 (by rw [List.length_take]; omega) (by rw [List.length_take]; omega)
    rw [take_oneE b2 j cj, ← HY.out] at h2
    rw [hBQ]
    exact h2⟩
   have HL1 := Aside0.mk (show ([y] : List S26).length ≤ c1 - j by show 1 ≤ _; omega)
   clear hi084 hsz hlc hBQ hm1 hm2 hi1 hi2 cj
   go_wp2_with (((with_reducible refine gate_builtin (b := .append) (xs := #[.tmp 86, .tmp 93]) rfl ?_); at_builtin; refine Kd.N_append k95 (w0 := w3) w3.heap.size rfl (.tmp 86) (.tmp 93) 28 95 (.agg #[.int .i64 0, .int .i64 0, .slice none 0 0, .slice none 0 0]) 64 rfl Try.underlying28 info95 rfl (by decide) (by decide) (.slice A10 out.length n10) out (⟨1, 0, [], [y]⟩ : S95) [.int .i64 1, .int .i64 0, .slice none 0 0, .slice BQ 1 (c1 - j)] (fun _ => True) (fun k => some k ≠ (Value.slice A10 out.length n10).ownBlock) rfl rfl ?aP (fun _ hk => ⟨trivial, hk⟩) (fun _ _ => trivial) HN.out HBR.out HBR.out.size ?aL ?_; (case aP => exact k95_mkF _ _ (⟨1, 0, [], [y]⟩ : S95) (Nat.le_refl _) (Kd.F_nil _ _ _) HL1.out HFY.out); (case aL => have := HI.out.2.2; omega); intro v14 w14 hN14 hb14 _ _; have HN14 := Aside0.mk hN14; have HB14 := Aside0.mk hb14; clear hN14 hb14))
   go_roundg gl
   case measure => omega
   case rel => exact ⟨i, j + 1, _, rfl, by simp, HIX, HN14, HB14, HLN⟩
theorem at_B {w : World} {A : Option Addr} {n : Nat} {xs : List Bool} (h : Kd.C Kd.bool w A n xs) (i : Nat) (h1 : (i : Int) < n) : ∃ ad, A = some ad ∧ w.cell? (ad.add i) = some (.bool (xs.getD i false)) := by
 obtain ⟨ad, c, e, _, hK, hc⟩ := Kd.C_get h false (i : Int) (by omega) h1
 have hK' : c = [.bool (xs.getD i false)] := by rw [Int.toNat_natCast] at hK; exact hK
 subst hK'
 have := hc 0 _ rfl
 exact ⟨ad, e, by simpa [show Kd.bool.sz = 1 from rfl] using this⟩
set_option maxRecDepth 100000 in
set_option maxHeartbeats 16000000 in
theorem mflows_calls (k : Nat) (nd : Int) (A0 : Option Addr) (c0 : Nat) (o : List S26) (A1 : Option Addr) (c1 : Nat) (a : List S26) (A2 : Option Addr) (c2 : Nat) (b : List S26) (da db : List S95) (w : World)
  (hr0 : Kd.C k26 w A0 o.length o) (hc0 : o.length ≤ c0) (hr1 : Kd.C k26 w A1 a.length a) (hc1 : a.length ≤ c1) (hr2 : Kd.C k26 w A2 b.length b) (hc2 : b.length ≤ c2) (la : a.length ≤ 1048576) (lb : b.length ≤ 1048576)
  (hda : rawF k o a = some da) (hdb : rawF k o b = some db) (hla : da.length ≤ 1073741824 ∧ oldL da ≤ o.length ∧ ∀ s ∈ da, 0 ≤ s.f1) (hlb : db.length ≤ 1073741824 ∧ oldL db ≤ o.length ∧ ∀ s ∈ db, 0 ≤ s.f1)
  (hj : JnB k o (sideOf o.length da) (sideOf o.length db)) (hcp : flow_Copy.f k (jnO nd o (sideOf o.length da) (sideOf o.length db)) = some (jnO nd o (sideOf o.length da) (sideOf o.length db))) :
  Calls Try.prog 62 #[.int .i64 nd, .slice A0 o.length c0, .slice A1 a.length c1, .slice A2 b.length c2] w fun e w' => ∃ v u, e = .returned (.tuple #[v, u]) ∧ Kd.N k26 26 w' w.heap.size (fun _ => True) v (jnO nd o (sideOf o.length da) (sideOf o.length db)) ∧ Kd.N k56 56 w' w.heap.size (fun _ => True) u (jnB nd o (sideOf o.length da) (sideOf o.length db)) ∧ Below w.heap.size w w' := by
 have hu26 := Try.underlying26
 have hu159 := Try.underlying159
 have hu164 := Try.underlying164
 have HR0 := Aside0.mk hr0
 have HC0 := Aside0.mk hc0
 have HR1 := Aside0.mk hr1
 have HC1 := Aside0.mk hc1
 have HR2 := Aside0.mk hr2
 have HC2 := Aside0.mk hc2
 have HLA := Aside0.mk la
 have HLB := Aside0.mk lb
 have HDA := Aside0.mk hda
 have HDB := Aside0.mk hdb
 have HQA := Aside0.mk hla
 have HQB := Aside0.mk hlb
 have HJ := Aside0.mk hj
 have HCP := Aside0.mk hcp
 have HN : Aside0 (o.length ≤ 64) := ⟨hj.n⟩
 clear hr0 hc0 hr1 hc1 hr2 hc2 la lb hda hdb hla hlb hj hcp
 obtain ⟨p, hp⟩ : ∃ p, p = sideOf o.length da := ⟨_, rfl⟩
 obtain ⟨q, hq⟩ : ∃ q, q = sideOf o.length db := ⟨_, rfl⟩
 rw [← hp, ← hq] at HJ HCP
 rw [← hp, ← hq]
 have HP := Aside0.mk hp
 have HQ := Aside0.mk hq
 clear hp hq
 go_enter Try.func62, Try.ntmps62
 go_upto_region 2 with (first
  | (go_at_call 95; go_loud ((with_reducible refine (raw_calls0 _ _ k A0 c0 o A1 c1 a da w HR0.out HC0.out HR1.out HC1.out (by have := HN.out; omega) HLA.out rfl rfl HDA.out).mono ?_); rintro e1 w1 ⟨v1, rfl, hN, hb⟩; obtain ⟨D1, m1, rfl⟩ := Kd.N_slice hN; have HD1 := Aside0.mk (Kd.N_reads' hN); have HB1 := Aside0.mk hb; clear hN hb))
  | (go_at_call 94; go_loud ((with_reducible refine (read_calls o.length D1 m1 da w1 HD1.out.2.2 HD1.out.2.1 HQA.out.1 (by have := HN.out; omega) HQA.out.2.1 HQA.out.2.2).mono ?_); rintro e2 w2 ⟨P1, P2, P3, p1, p2, p3, rfl, hA, hB, hC, hb⟩; rw [← HP.out] at hA hB hC ⊢; have HPA := Aside0.mk hA; have HPB := Aside0.mk hB; have HPC := Aside0.mk hC; have HB2 := Aside0.mk (below_step HB1.out hb); clear hA hB hC hb))
  | (go_at_call 95; go_loud ((with_reducible refine (raw_calls0 _ _ k A0 c0 o A2 c2 b db w2 (Kd.C_below HR0.out HB2.out) HC0.out (Kd.C_below HR2.out HB2.out) HC2.out (by have := HN.out; omega) HLB.out rfl rfl HDB.out).mono ?_); rintro e3 w3 ⟨v3, rfl, hN, hb⟩; obtain ⟨D3, m3, rfl⟩ := Kd.N_slice hN; have HD3 := Aside0.mk (Kd.N_reads' hN); have HB23 := Aside0.mk hb; have HB3 := Aside0.mk (below_step HB2.out hb); clear hN hb))
  | (go_at_call 94; go_loud ((with_reducible refine (read_calls o.length D3 m3 db w3 HD3.out.2.2 HD3.out.2.1 HQB.out.1 (by have := HN.out; omega) HQB.out.2.1 HQB.out.2.2).mono ?_); rintro e4 w4 ⟨Q1, Q2, Q3, q1, q2, q3, rfl, hA, hB, hC, hb⟩; rw [← HQ.out] at hA hB hC ⊢; have HQRA := Aside0.mk hA; have HQRB := Aside0.mk hB; have HQRC := Aside0.mk hC; have HB4 := Aside0.mk (below_step HB3.out hb); have HB24 := Aside0.mk (below_step HB23.out hb); clear hA hB hC hb)))
 obtain ⟨w5, hw5⟩ : ∃ W, W = (w4.alloc (Obj.cells #[Value.slice P1 p.1.length p1, Value.slice P2 p.2.1.length p2, Value.slice P3 p.2.2.length p3] 159)).alloc (Obj.cells #[Value.slice Q1 q.1.length q1, Value.slice Q2 q.2.1.length q2, Value.slice Q3 q.2.2.length q3] 159) := ⟨_, rfl⟩
 obtain ⟨gp, hgp⟩ : ∃ k, k = w4.heap.size := ⟨_, rfl⟩
 obtain ⟨gq, hgq⟩ : ∃ k, k = w4.heap.size + 1 := ⟨_, rfl⟩
 have HGP : Aside0 (w5.heap[gp]? = some (Obj.cells #[Value.slice P1 p.1.length p1, Value.slice P2 p.2.1.length p2, Value.slice P3 p.2.2.length p3] 159 (0, 0))) := ⟨by rw [hw5, hgp]; exact blk_alloc (blk_new w4 _) _⟩
 have HGQ : Aside0 (w5.heap[gq]? = some (Obj.cells #[Value.slice Q1 q.1.length q1, Value.slice Q2 q.2.1.length q2, Value.slice Q3 q.2.2.length q3] 159 (0, 0))) := ⟨by rw [hw5, hgq]; have := blk_new (w4.alloc (Obj.cells #[Value.slice P1 p.1.length p1, Value.slice P2 p.2.1.length p2, Value.slice P3 p.2.2.length p3] 159)) (Obj.cells #[Value.slice Q1 q.1.length q1, Value.slice Q2 q.2.1.length q2, Value.slice Q3 q.2.2.length q3] 159); rw [World.size_alloc] at this; exact this⟩
 have HB45 : Aside0 (Below w4.heap.size w4 w5) := ⟨by rw [hw5]; exact below_alloc (below_alloc (Below.refl _ _) _) _⟩
 rw [← hw5, ← hgq, ← hgp]
 clear hw5 hgp hgq
 have HB5 := Aside0.mk (below_step HB4.out HB45.out)
 have HB25 := Aside0.mk (below_step HB24.out HB45.out)
 have HO5 := Aside0.mk (Kd.C_below HR0.out HB5.out)
 have HPA5 := Aside0.mk (Kd.C_below HPA.out.1 HB25.out)
 have HPB5 := Aside0.mk (Kd.C_below HPB.out.1 HB25.out)
 have HPC5 := Aside0.mk (Kd.C_below HPC.out.1 HB25.out)
 have HQA5 := Aside0.mk (Kd.C_below HQRA.out.1 HB45.out)
 have HQB5 := Aside0.mk (Kd.C_below HQRB.out.1 HB45.out)
 have HQC5 := Aside0.mk (Kd.C_below HQRC.out.1 HB45.out)
 clear HB1 HB2 HB3 HB4 HB23 HB24 HB25 HB45 HPA HPB HPC HQRA HQRB HQRC HD1 HD3 HR0 HR1 HR2 HC1 HC2 HLA HLB HDA HDB HQA HQB HP HQ
 go_upto_region 3 with (fail)
 obtain ⟨w6, hw6⟩ : ∃ W, W = w5.alloc (Obj.cells #[.int .i64 nd, .slice none 0 0, .slice none 0 0] 164) := ⟨_, rfl⟩
 obtain ⟨g, hg⟩ : ∃ k, k = w5.heap.size := ⟨_, rfl⟩
 have HJ0 : Aside0 (JoD w5 g nd [] [] (.slice none 0 0) (.slice none 0 0) w6) := ⟨by rw [hw6, hg]; exact ⟨Nat.le_refl _, blk_new w5 _, Kd.N_nil _ _ _ _ _, Kd.N_nil _ _ _ _ _, below_alloc (Below.refl _ _) _⟩⟩
 rw [← hw6, ← hg]
 clear hw6 hg
 go_wp2
 go_loopg [32] o.length (fun m v32 wr => ∃ (i : Nat) (v u : Value), v32 = .int .i64 (i : Int) ∧ Aside0 (m + i = o.length) ∧ Aside0 (JoD w5 g nd (jnP nd o p q i).1 (jnP nd o p q i).2 v u wr))
 case atStart => exact ⟨0, _, _, rfl, ⟨rfl⟩, HJ0⟩
 case round =>
 clear HJ0
 obtain ⟨i, v, u, rfl, HI, HJI⟩ := hrel
 have HLEN := Aside0.mk (HJ.out.len nd i)
 by_cases d2 : i < o.length
 rotate_left
 ·have hi : i = o.length := by have := HI.out; omega
  have HE := Aside0.mk hi
  have g1 : decide ((i : Int) < (o.length : Int)) = false := decide_eq_false (by omega)
  have g1' : decide (i < o.length) = false := decide_eq_false d2
  clear hi d2
  obtain ⟨adp, GA, gac, eP, hpa, hpl, hpc⟩ := at_L5 HPA5.out (o.length : Int) (by omega) (by rw [HJ.out.pa]; omega)
  obtain ⟨adq, GB, gbc, eQ, hqa, hql, hqc⟩ := at_L5 HQA5.out (o.length : Int) (by omega) (by rw [HJ.out.qa]; omega)
  subst eP
  subst eQ
  have HCA := Aside0.mk (And.intro hpl hpc)
  have HCB := Aside0.mk (And.intro hql hqc)
  simp only [Int.toNat_natCast] at hpa hqa
  replace hpa := (HJI.out.bel.cell (World.block_lt_of_cell? w5 _ hpa)).trans hpa
  replace hqa := (HJI.out.bel.cell (World.block_lt_of_cell? w5 _ hqa)).trans hqa
  have hgp0 : wr.cell? ⟨gp, 0, none⟩ = some (.slice (some adp) p.1.length p1) := (blk_cell ((HJI.out.bel.block gp (blk_lt HGP.out)).trans HGP.out) 0).trans rfl
  have hgq0 : wr.cell? ⟨gq, 0, none⟩ = some (.slice (some adq) q.1.length q1) := (blk_cell ((HJI.out.bel.block gq (blk_lt HGQ.out)).trans HGQ.out) 0).trans rfl
  have p8 : (0 : Int) ≤ (o.length : Int) := by omega
  have q8 : (o.length : Int) < (p.1.length : Int) := by rw [HJ.out.pa]; omega
  have q9 : (o.length : Int) < (q.1.length : Int) := by rw [HJ.out.qa]; omega
  clear hpl hpc hql hqc
  have HJX : Aside0 (JoD w5 g nd (jnP nd o p q o.length).1 (jnP nd o p q o.length).2 v u wr) := ⟨by rw [← HE.out]; exact HJI.out⟩
  have HLX : Aside0 ((jnP nd o p q o.length).1.length ≤ o.length * 2001 ∧ (jnP nd o p q o.length).2.length ≤ o.length * 4194306) := ⟨HJ.out.len nd o.length⟩
  have HK := Aside0.mk (HJX.out.drew.keep (blk_lt HGP.out) ((HJX.out.drew.bel.block gp (blk_lt HGP.out)).trans HGP.out))
  clear HJI
  go_upto_region 9 with (fail)
  refine wp_region_still_tail 13 (by kernel_rfl) (by kernel_rfl) ?_
  simp only [List.take_succ_cons, List.take_zero, List.drop_succ_cons, List.drop_zero]
  change wpStill _ _ (World.drew _) (fun a' => wpList _ _ _ _ a' (World.drew _)) _ _
  repeat still_step
  refine wpStill_nil ?_
  go_upto_region 10 with (go_at_call 96; go_loud ((with_reducible refine (gap_calls w5 g gp _ nd _ _ v u wr.drew GA gac (rd_L5 p.1 (o.length : Int)) GB gbc (rd_L5 q.1 (o.length : Int)) k _ HK.out HCA.out.2 HCA.out.1 HCB.out.2 HCB.out.1 (HJ.out.sm o.length (Nat.le_refl _)) (by have h1 := HLX.out.1; have h2 := HJ.out.ga o.length; have h3 := HN.out; omega) (by have h1 := HLX.out.2; have h3 := HN.out; omega)).mono ?_); rintro e1 w7 ⟨rfl, v1, u1, hK⟩; have HJ7 : Aside0 (JoD w5 g nd (jnO nd o p q) (jnB nd o p q) v1 u1 w7) := ⟨hK.toD⟩; clear hK))
  clear hpa hqa hgp0 hgq0 p8 q8 q9 HK HJX
  obtain ⟨oO, hoO⟩ : ∃ l, l = jnO nd o p q := ⟨_, rfl⟩
  obtain ⟨bB, hbB⟩ : ∃ l, l = jnB nd o p q := ⟨_, rfl⟩
  rw [← hoO] at HCP
  rw [← hoO, ← hbB] at HJ7
  have HOO := Aside0.mk hoO
  have HBB := Aside0.mk hbB
  clear hoO hbB
  obtain ⟨AV, nV, eV⟩ := Kd.N_slice HJ7.out.rv
  subst eV
  obtain ⟨BV, mV, eU⟩ := Kd.N_slice HJ7.out.ru
  subst eU
  have HJD := Aside0.mk HJ7.out.drew
  have HRO := Aside0.mk (Kd.N_reads' HJD.out.rv)
  go_upto_region 10 with (fail)
  refine start_ (n := 11) (S := fun w' => w'.cell? ⟨g, 1, none⟩ = some (.slice AV oO.length nV) ∧ w'.cell? ⟨g, 2, none⟩ = some (.slice BV bB.length mV)) (ds := []) #[false, false, false, false, false, false, false, false, false, false, false] (by kernel_rfl) rfl rfl ⟨((blk_cell HJD.out.blk 1).trans rfl), ((blk_cell HJD.out.blk 2).trans rfl)⟩ (fun hHeld => ?_)
  refine pure_ (i := 0) (N := some 87) (v := ?_) (a' := ?_) (bm 1 11) rfl rfl (by kernel_rfl) (fun _ _ _ h => h) (Or.inl ⟨by rfl, ?_⟩) ?_ ?_
  rotate_left
  ·intro w'
   go_simp
   with_reducible rfl
  rotate_left
  ·simp only [Act.put, sA, sB, sC, i64_w, i32_w]
   rfl
  refine pure_ (i := 1) (N := some 88) (v := ?_) (a' := ?_) (bm 3 11) rfl rfl (by kernel_rfl) (fun _ _ _ h => h) (Or.inl ⟨by rfl, ?_⟩) ?_ ?_
  rotate_left
  ·intro w'
   go_simp
   with_reducible rfl
  rotate_left
  ·simp only [Act.put, sA, sB, sC, i64_w, i32_w]
   rfl
  refine pure_ (i := 2) (N := some 89) (v := ?_) (a' := ?_) (bm 7 11) rfl rfl (by kernel_rfl) (fun _ _ _ h => h) (Or.inl ⟨by rfl, ?_⟩) ?_ ?_
  rotate_left
  ·intro w'
   go_simp
   with_reducible rfl
  rotate_left
  ·simp only [Act.put, sA, sB, sC, i64_w, i32_w]
   rfl
  refine pure_ (i := 5) (N := some 92) (v := ?_) (a' := ?_) (bm 39 11) rfl rfl (by kernel_rfl) (fun _ _ _ h => h) (Or.inl ⟨by rfl, ?_⟩) ?_ ?_
  rotate_left
  ·intro w'
   go_simp
   with_reducible rfl
  rotate_left
  ·simp only [Act.put, sA, sB, sC, i64_w, i32_w]
   rfl
  refine pure_ (i := 6) (N := some 93) (v := ?_) (a' := ?_) (bm 103 11) rfl rfl (by kernel_rfl) (fun _ _ _ h => h) (Or.inl ⟨by rfl, ?_⟩) ?_ ?_
  rotate_left
  ·intro w'
   go_simp
   with_reducible rfl
  rotate_left
  ·simp only [Act.put, sA, sB, sC, i64_w, i32_w]
   rfl
  refine pure_ (i := 7) (N := some 94) (v := ?_) (a' := ?_) (bm 231 11) rfl rfl (by kernel_rfl) (fun _ _ _ h => h) (Or.inl ⟨by rfl, ?_⟩) ?_ ?_
  rotate_left
  ·intro w'
   go_simp
   with_reducible rfl
  rotate_left
  ·simp only [Act.put, sA, sB, sC, i64_w, i32_w]
   rfl
  refine take_ (i := 3) (N := some 90) (v := ?_) (a' := ?_) (bm 239 11) rfl rfl (by kernel_rfl) (fun _ _ _ h => h) (Or.inl ⟨by rfl, ?_⟩) hHeld ?_ ?_
  rotate_left
  ·rintro w' ⟨s0, s1⟩
   go_simp
   with_reducible rfl
  rotate_left
  ·simp only [Act.put, sA, sB, sC, i64_w, i32_w]
   rfl
  refine take_ (i := 8) (N := some 95) (v := ?_) (a' := ?_) (bm 495 11) rfl rfl (by kernel_rfl) (fun _ _ _ h => h) (Or.inl ⟨by rfl, ?_⟩) hHeld ?_ ?_
  rotate_left
  ·rintro w' ⟨s0, s1⟩
   go_simp
   with_reducible rfl
  rotate_left
  ·simp only [Act.put, sA, sB, sC, i64_w, i32_w]
   rfl
  refine one_ (i := 4) (N := some 91) (bm 511 11) rfl rfl (by kernel_rfl) (by decide) (fun K hK => ?_)
  refine goes_ Try.func92 (by kernel_rfl) rfl #[.slice AV oO.length nV] (by rfl) rfl rfl (by simp only [List.map_toArray, List.map_cons, List.map_nil]; rfl) ?_
  with_reducible refine (flow_Copy.calls k AV nV oO oO _ HRO.out.2.2 HRO.out.2.1 HCP.out).mono ?_
  rintro e w6 ⟨v0_, rfl, hN_, hb_⟩
  refine ⟨_, rfl, ?_⟩
  have HNV := Aside0.mk hN_
  have HJ7 := Aside0.mk (HJD.out.below hb_)
  clear hN_ hb_
  refine hK.out _ _ ⟨((blk_cell HJ7.out.blk 1).trans rfl), ((blk_cell HJ7.out.blk 2).trans rfl)⟩ (fun hHeld => ?_)
  clear hK K
  refine norm_ (a' := ?_) ?_ ?_
  rotate_left
  ·show Act.put _ (some 91) _ = _
   simp only [Act.put, sA, sB, sC, i64_w, i32_w]
   rfl
  refine pure_ (i := 9) (N := some 8) (v := ?_) (a' := ?_) (bm 1023 11) rfl rfl (by kernel_rfl) (fun _ _ _ h => h) (Or.inl ⟨by rfl, ?_⟩) ?_ ?_
  rotate_left
  ·intro w'
   go_simp
   with_reducible rfl
  rotate_left
  ·simp only [Act.put, sA, sB, sC, i64_w, i32_w]
   rfl
  refine pure_ (i := 10) (N := some 9) (v := ?_) (a' := ?_) (bm 2047 11) rfl rfl (by kernel_rfl) (fun _ _ _ h => h) (Or.inl ⟨by rfl, ?_⟩) ?_ ?_
  rotate_left
  ·intro w'
   go_simp
   with_reducible rfl
  rotate_left
  ·simp only [Act.put, sA, sB, sC, i64_w, i32_w]
   rfl
  refine done_ (by kernel_rfl) ?_
  go_wp2
  first | go_ret | go_ret2
  have hs5 : w.heap.size ≤ w5.heap.size := HB5.out.size
  refine ⟨_, _, rfl, ?_, ?_, ?_⟩
  ·rw [← HOO.out]
   exact Kd.N_mono (Kd.N_lower HNV.out (Nat.le_trans hs5 HJD.out.bel.size)) (fun _ _ => trivial)
  ·rw [← HBB.out]
   exact Kd.N_mono (Kd.N_lower HJ7.out.ru hs5) (fun _ _ => trivial)
  ·exact HB5.out.trans (HJ7.out.bel.mono hs5)
 obtain ⟨gl, rfl⟩ : ∃ gl, gk = gl + 1 := ⟨gk - 1, by have := HI.out; omega⟩
 have HLT := Aside0.mk d2
 have g1 : decide ((i : Int) < (o.length : Int)) = true := decide_eq_true (by omega)
 have g1' : decide (i < o.length) = true := decide_eq_true d2
 have qi1 : (i : Int) < (o.length : Int) := by omega
 have HWI : Aside0 (wrap64 ((i : Int) + 1) = (i : Int) + 1) := ⟨by have := HN.out; exact wr64 (by omega) (by omega)⟩
 obtain ⟨ad0, AX, cx, e0, hx0, hx1, hx2, hlx, hcx⟩ := at_T26 HO5.out (i : Int) (by omega) qi1
 subst e0
 replace hx0 := (HJI.out.bel.cell (World.block_lt_of_cell? w5 _ hx0)).trans hx0
 replace hx1 := (HJI.out.bel.cell (World.block_lt_of_cell? w5 _ hx1)).trans hx1
 replace hx2 := (HJI.out.bel.cell (World.block_lt_of_cell? w5 _ hx2)).trans hx2
 simp only [Int.toNat_natCast] at hx0 hx1 hx2
 have HXL := Aside0.mk (HJ.out.xa i)
 obtain ⟨x, hx⟩ : ∃ x, x = rd_T26 o (i : Int) := ⟨_, rfl⟩
 rw [← hx] at hx0 hx1 hx2 hlx hcx HXL
 have HX := Aside0.mk hx
 have HXC := Aside0.mk (And.intro hlx hcx)
 clear hx d2 hlx hcx
 have HK6 := Aside0.mk (HJI.out.toK (Obj.cells #[.int .i64 x.f0, .int .i64 x.f1, .slice AX x.f2.length cx] 26 (0, 0)))
 obtain ⟨w7, hw7⟩ : ∃ W, W = wr.alloc (Obj.cells #[.int .i64 x.f0, .int .i64 x.f1, .slice AX x.f2.length cx] 26 (0, 0)) := ⟨_, rfl⟩
 obtain ⟨gx, hgx⟩ : ∃ k, k = wr.heap.size := ⟨_, rfl⟩
 rw [← hw7, ← hgx] at HK6
 go_upto_region 6 with (fail)
 rw [← hw7, ← hgx]
 clear hw7 hgx hx0 hx1 hx2 HJI
 obtain ⟨adp, GA, gac, eP, hpa, hpl, hpc⟩ := at_L5 HPA5.out (i : Int) (by omega) (by have := HLT.out; rw [HJ.out.pa]; omega)
 obtain ⟨adq, GB, gbc, eQ, hqa, hql, hqc⟩ := at_L5 HQA5.out (i : Int) (by omega) (by have := HLT.out; rw [HJ.out.qa]; omega)
 subst eP
 subst eQ
 have HCA := Aside0.mk (And.intro hpl hpc)
 have HCB := Aside0.mk (And.intro hql hqc)
 simp only [Int.toNat_natCast] at hpa hqa
 replace hpa := (HK6.out.bel.cell (World.block_lt_of_cell? w5 _ hpa)).trans hpa
 replace hqa := (HK6.out.bel.cell (World.block_lt_of_cell? w5 _ hqa)).trans hqa
 have hgp0 : w7.cell? ⟨gp, 0, none⟩ = some (.slice (some adp) p.1.length p1) := (blk_cell ((HK6.out.bel.block gp (blk_lt HGP.out)).trans HGP.out) 0).trans rfl
 have hgq0 : w7.cell? ⟨gq, 0, none⟩ = some (.slice (some adq) q.1.length q1) := (blk_cell ((HK6.out.bel.block gq (blk_lt HGQ.out)).trans HGQ.out) 0).trans rfl
 have p8 : (0 : Int) ≤ (i : Int) := by omega
 have q8 : (i : Int) < (p.1.length : Int) := by have := HLT.out; rw [HJ.out.pa]; omega
 have q9 : (i : Int) < (q.1.length : Int) := by have := HLT.out; rw [HJ.out.qa]; omega
 clear hpl hpc hql hqc
 refine wp_region_still_tail 11 (by kernel_rfl) (by kernel_rfl) ?_
 simp only [List.take_succ_cons, List.take_zero, List.drop_succ_cons, List.drop_zero]
 change wpStill _ _ (World.drew _) (fun a' => wpList _ _ _ _ a' (World.drew _)) _ _
 repeat still_step
 refine wpStill_nil ?_
 go_upto_region 7 with (go_at_call 96; go_loud ((with_reducible refine (gap_calls w5 g gx _ nd _ _ v u w7.drew GA gac (rd_L5 p.1 (i : Int)) GB gbc (rd_L5 q.1 (i : Int)) k _ HK6.out.drew HCA.out.2 HCA.out.1 HCB.out.2 HCB.out.1 (HJ.out.sm i (Nat.le_of_lt HLT.out)) (by have h1 := HLEN.out.1; have h2 := HJ.out.ga i; have h3 := HN.out; have h4 := HLT.out; omega) (by have h1 := HLEN.out.2; have h3 := HN.out; have h4 := HLT.out; omega)).mono ?_); rintro e1 w8 ⟨rfl, v1, u1, hK⟩; have HK8 : Aside0 (JoK w5 g gx (Obj.cells #[.int .i64 x.f0, .int .i64 x.f1, .slice AX x.f2.length cx] 26 (0, 0)) nd (stO o p q i (jnP nd o p q i).1) (stB nd p q i (jnP nd o p q i).1 (jnP nd o p q i).2) v1 u1 w8) := ⟨hK⟩; clear hK))
 clear hpa hqa hgp0 hgq0 HK6 q8 q9
 have HLO : Aside0 ((stO o p q i (jnP nd o p q i).1).length ≤ 1073741824 ∧ (stB nd p q i (jnP nd o p q i).1 (jnP nd o p q i).2).length + (rd_L3 p.2.2 (i : Int)).length ≤ 1073741824) := ⟨by
  have h1 := HLEN.out
  have h2 := HJ.out.ga i
  have h3 := HN.out
  have h4 := HLT.out
  have h5 := HJ.out.ta i
  have e2 : (stO o p q i (jnP nd o p q i).1).length ≤ (jnP nd o p q i).1.length + (rd_L5 p.1 (i : Int)).length + (rd_L5 q.1 (i : Int)).length := gapO_len _ _ _ _
  have e4 : (stB nd p q i (jnP nd o p q i).1 (jnP nd o p q i).2).length ≤ (jnP nd o p q i).2.length + 1 := gapB_len _ _ _ _ _ _
  omega⟩
 have q8 : (i : Int) < (p.2.2.length : Int) := by have := HLT.out; rw [HJ.out.pt]; omega
 have q9 : (i : Int) < (q.2.2.length : Int) := by have := HLT.out; rw [HJ.out.qt]; omega
 have q10 : (i : Int) < (p.2.1.length : Int) := by have := HLT.out; rw [HJ.out.pc]; omega
 have q11 : (i : Int) < (q.2.1.length : Int) := by have := HLT.out; rw [HJ.out.qc]; omega
 obtain ⟨adt, TA, tac, eP, hta, htl, htc⟩ := at_L3 HPC5.out (i : Int) (by omega) q8
 obtain ⟨adu, TB, tbc, eQ, hua, hul, huc⟩ := at_L3 HQC5.out (i : Int) (by omega) q9
 obtain ⟨adc, eC, hca⟩ := at_B HPB5.out i q10
 obtain ⟨add, eD, hda⟩ := at_B HQB5.out i q11
 subst eP
 subst eQ
 subst eC
 subst eD
 have HCA := Aside0.mk (And.intro htl htc)
 have HCB := Aside0.mk (And.intro hul huc)
 simp only [Int.toNat_natCast] at hta hua
 replace hta := (HK8.out.bel.cell (World.block_lt_of_cell? w5 _ hta)).trans hta
 replace hua := (HK8.out.bel.cell (World.block_lt_of_cell? w5 _ hua)).trans hua
 replace hca := (HK8.out.bel.cell (World.block_lt_of_cell? w5 _ hca)).trans hca
 replace hda := (HK8.out.bel.cell (World.block_lt_of_cell? w5 _ hda)).trans hda
 have hgp1 : w8.cell? ⟨gp, 1, none⟩ = some (.slice (some adc) p.2.1.length p2) := (blk_cell ((HK8.out.bel.block gp (blk_lt HGP.out)).trans HGP.out) 1).trans rfl
 have hgq1 : w8.cell? ⟨gq, 1, none⟩ = some (.slice (some add) q.2.1.length q2) := (blk_cell ((HK8.out.bel.block gq (blk_lt HGQ.out)).trans HGQ.out) 1).trans rfl
 have hgp2 : w8.cell? ⟨gp, 2, none⟩ = some (.slice (some adt) p.2.2.length p3) := (blk_cell ((HK8.out.bel.block gp (blk_lt HGP.out)).trans HGP.out) 2).trans rfl
 have hgq2 : w8.cell? ⟨gq, 2, none⟩ = some (.slice (some adu) q.2.2.length q3) := (blk_cell ((HK8.out.bel.block gq (blk_lt HGQ.out)).trans HGQ.out) 2).trans rfl
 have hxa : w8.cell? ⟨gx, 0, none⟩ = some (.int .i64 x.f0) := (blk_cell HK8.out.xk 0).trans rfl
 have hxb : w8.cell? ⟨gx, 1, none⟩ = some (.int .i64 x.f1) := (blk_cell HK8.out.xk 1).trans rfl
 have hxc : w8.cell? ⟨gx, 2, none⟩ = some (.slice AX x.f2.length cx) := (blk_cell HK8.out.xk 2).trans rfl
 clear htl htc hul huc
 obtain ⟨ba, hba⟩ : ∃ b, b = p.2.1.getD i false := ⟨_, rfl⟩
 obtain ⟨bb, hbb⟩ : ∃ b, b = q.2.1.getD i false := ⟨_, rfl⟩
 rw [← hba] at hca
 rw [← hbb] at hda
 have HBA := Aside0.mk hba
 have HBB := Aside0.mk hbb
 clear hba hbb
 refine wp_region_still_tail 22 (by kernel_rfl) (by kernel_rfl) ?_
 simp only [List.take_succ_cons, List.take_zero, List.drop_succ_cons, List.drop_zero]
 change wpStill _ _ (World.drew _) (fun a' => wpList _ _ _ _ a' (World.drew _)) _ _
 repeat still_step
 refine wpStill_nil ?_
 go_upto_region 8 with (go_at_call 97; go_loud ((with_reducible refine (elem_calls w5 g nd _ _ v1 u1 w8.drew x AX cx TA tac (rd_L3 p.2.2 (i : Int)) TB tbc (rd_L3 q.2.2 (i : Int)) ba bb HK8.out.toD.drew HXC.out.2 HXC.out.1 HCA.out.2 HCA.out.1 HCB.out.2 HCB.out.1 HLO.out.1 HLO.out.2 (by have := HXL.out; omega) (by have := (HJ.out.ta i).1; omega) (by have := (HJ.out.ta i).2; omega)).mono ?_); rintro e1 w9 ⟨rfl, v2, u2, hD⟩; have HD9 : Aside0 (JoD w5 g nd (jnP nd o p q (i + 1)).1 (jnP nd o p q (i + 1)).2 v2 u2 w9) := ⟨by rw [HBA.out, HBB.out, HX.out] at hD; exact hD⟩; clear hD))
 clear hta hua hca hda hgp1 hgq1 hgp2 hgq2 hxa hxb hxc HK8 q8 q9 q10 q11 p8
 have wk : IntKind.i64.wrap ((i : Int) + 1) = (i : Int) + 1 := by rw [i64_w]; exact HWI.out
 go_wp2
 clear wk
 go_roundg gl
 case measure => omega
 case rel => exact ⟨i + 1, v2, u2, by simp [HWI.out], ⟨by have := HI.out; omega⟩, HD9⟩
structure FlAt (k : Nat) (o a b : List S26) (da db : List S95) : Prop where
 co : flow_CheckPart.f k o = some 0
 ca : flow_CheckPart.f k a = some 0
 cb : flow_CheckPart.f k b = some 0
 lo : o.length ≤ 2000
 la : a.length ≤ 2000
 lb : b.length ≤ 2000
 qa : rawF k o a = some da
 qb : rawF k o b = some db
 ra : da.length ≤ 1073741824 ∧ oldL da ≤ o.length ∧ ∀ s ∈ da, 0 ≤ s.f1
 rb : db.length ≤ 1073741824 ∧ oldL db ≤ o.length ∧ ∀ s ∈ db, 0 ≤ s.f1
 jb : JnB k o (sideOf o.length da) (sideOf o.length db)
 cp : flow_Copy.f k (jnO 0 o (sideOf o.length da) (sideOf o.length db)) = some (jnO 0 o (sideOf o.length da) (sideOf o.length db))
set_option maxRecDepth 100000 in
set_option maxHeartbeats 8000000 in
theorem mFlows_calls (k : Nat) (A0 : Option Addr) (c0 : Nat) (o : List S26) (A1 : Option Addr) (c1 : Nat) (a : List S26) (A2 : Option Addr) (c2 : Nat) (b : List S26) (da db : List S95) (w : World)
  (hr0 : Kd.C k26 w A0 o.length o) (hc0 : o.length ≤ c0) (hr1 : Kd.C k26 w A1 a.length a) (hc1 : a.length ≤ c1) (hr2 : Kd.C k26 w A2 b.length b) (hc2 : b.length ≤ c2) (h : FlAt k o a b da db) :
  Calls Try.prog 27 #[.slice A0 o.length c0, .slice A1 a.length c1, .slice A2 b.length c2] w fun e w' => ∃ v u, e = .returned (.tuple #[v, u, .int .i64 0]) ∧ Kd.N k26 26 w' w.heap.size (fun _ => True) v (jnO 0 o (sideOf o.length da) (sideOf o.length db)) ∧ Kd.N k56 56 w' w.heap.size (fun _ => True) u (jnB 0 o (sideOf o.length da) (sideOf o.length db)) ∧ Below w.heap.size w w' := by
 have HR0 := Aside0.mk hr0
 have HC0 := Aside0.mk hc0
 have HR1 := Aside0.mk hr1
 have HC1 := Aside0.mk hc1
 have HR2 := Aside0.mk hr2
 have HC2 := Aside0.mk hc2
 have HF := Aside0.mk h
 have g0 : decide ((2000 : Int) < (o.length : Int)) = false := decide_eq_false (by have := h.lo; omega)
 have g0' : decide (2000 < o.length) = false := decide_eq_false (by have := h.lo; omega)
 have g1 : decide ((2000 : Int) < (a.length : Int)) = false := decide_eq_false (by have := h.la; omega)
 have g1' : decide (2000 < a.length) = false := decide_eq_false (by have := h.la; omega)
 have g2 : decide ((2000 : Int) < (b.length : Int)) = false := decide_eq_false (by have := h.lb; omega)
 have g2' : decide (2000 < b.length) = false := decide_eq_false (by have := h.lb; omega)
 clear hr0 hc0 hr1 hc1 hr2 hc2 h
 have i0 : ∀ w : World, (Instr.index 113 (.agg #[.slice A0 o.length c0, .slice A1 a.length c1, .slice A2 b.length c2]) (.int .i64 0)).run Try.prog w = .ok (.slice A0 o.length c0) w := fun _ => by kernel_rfl
 have i1 : ∀ w : World, (Instr.index 113 (.agg #[.slice A0 o.length c0, .slice A1 a.length c1, .slice A2 b.length c2]) (.int .i64 1)).run Try.prog w = .ok (.slice A1 a.length c1) w := fun _ => by kernel_rfl
 have i2 : ∀ w : World, (Instr.index 113 (.agg #[.slice A0 o.length c0, .slice A1 a.length c1, .slice A2 b.length c2]) (.int .i64 2)).run Try.prog w = .ok (.slice A2 b.length c2) w := fun _ => by kernel_rfl
 go_enter Try.func27, Try.ntmps27
 go_wp2
 have HB0 := Aside0.mk (Below.refl w.heap.size w)
 go_loopg [20] 3 (fun m v20 wr => ∃ (i : Nat), v20 = .int .i64 (i : Int) ∧ Aside0 (m + i = 3) ∧ Aside0 (Below w.heap.size w wr))
 case atStart => exact ⟨0, rfl, ⟨rfl⟩, HB0⟩
 case round =>
  clear HB0
  obtain ⟨i, rfl, HI, HB⟩ := hrel
  obtain ⟨i0, hi0⟩ : ∃ j, j = i := ⟨_, rfl⟩
  by_cases d0 : i = 0
  ·subst d0
   obtain rfl : gk = 3 := by have := HI.out; omega
   clear hi0
   go_wp2_with (go_at_call 61; (with_reducible refine (flow_CheckPart.calls k _ _ o 0 _ (Kd.C_below HR0.out HB.out) HC0.out HF.out.co).mono ?_); rintro e1 w1 ⟨rfl, hb⟩; have HB1 := Aside0.mk (below_step HB.out hb); clear hb)
   go_roundg 2
   case measure => omega
   case rel => exact ⟨1, by first | rfl | simp, ⟨rfl⟩, HB1⟩
  by_cases d1 : i = 1
  ·subst d1
   obtain rfl : gk = 2 := by have := HI.out; omega
   clear hi0 d0
   go_wp2_with (go_at_call 61; (with_reducible refine (flow_CheckPart.calls k _ _ a 0 _ (Kd.C_below HR1.out HB.out) HC1.out HF.out.ca).mono ?_); rintro e1 w1 ⟨rfl, hb⟩; have HB1 := Aside0.mk (below_step HB.out hb); clear hb)
   go_roundg 1
   case measure => omega
   case rel => exact ⟨2, by first | rfl | simp, ⟨rfl⟩, HB1⟩
  by_cases d2 : i = 2
  ·subst d2
   obtain rfl : gk = 1 := by have := HI.out; omega
   clear hi0 d0 d1
   go_wp2_with (go_at_call 61; (with_reducible refine (flow_CheckPart.calls k _ _ b 0 _ (Kd.C_below HR2.out HB.out) HC2.out HF.out.cb).mono ?_); rintro e1 w1 ⟨rfl, hb⟩; have HB1 := Aside0.mk (below_step HB.out hb); clear hb)
   go_roundg 0
   case measure => omega
   case rel => exact ⟨3, by first | rfl | simp, ⟨rfl⟩, HB1⟩
  obtain rfl : i = 3 := by have := HI.out; omega
  clear hi0 d0 d1 d2
  go_wp2
  go_loopg [33] 3 (fun m v33 wx => ∃ (j : Nat), v33 = .int .i64 (j : Int) ∧ Aside0 (m + j = 3) ∧ Aside0 (Below w.heap.size w wx))
  case atStart => exact ⟨0, rfl, ⟨rfl⟩, HB⟩
  case round =>
   clear HB
   obtain ⟨j, rfl, HJ, HB⟩ := hrel
   obtain ⟨j0, hj0⟩ : ∃ q, q = j := ⟨_, rfl⟩
   by_cases d0 : j = 0
   ·subst d0
    obtain rfl : gk = 3 := by have := HJ.out; omega
    clear hj0
    go_wp2
    go_roundg 2
    case measure => omega
    case rel => exact ⟨1, by first | rfl | simp, ⟨rfl⟩, HB⟩
   by_cases d1 : j = 1
   ·subst d1
    obtain rfl : gk = 2 := by have := HJ.out; omega
    clear hj0 d0
    go_wp2
    go_roundg 1
    case measure => omega
    case rel => exact ⟨2, by first | rfl | simp, ⟨rfl⟩, HB⟩
   by_cases d2 : j = 2
   ·subst d2
    obtain rfl : gk = 1 := by have := HJ.out; omega
    clear hj0 d0 d1
    go_wp2
    go_roundg 0
    case measure => omega
    case rel => exact ⟨3, by first | rfl | simp, ⟨rfl⟩, HB⟩
   obtain rfl : j = 3 := by have := HJ.out; omega
   clear hj0 d0 d1 d2
   go_wp2_with (go_at_call 62; (with_reducible refine (mflows_calls k 0 A0 c0 o A1 c1 a A2 c2 b da db _ (Kd.C_below HR0.out HB.out) HC0.out (Kd.C_below HR1.out HB.out) HC1.out (Kd.C_below HR2.out HB.out) HC2.out (Nat.le_trans HF.out.la (by omega)) (Nat.le_trans HF.out.lb (by omega)) HF.out.qa HF.out.qb HF.out.ra HF.out.rb HF.out.jb HF.out.cp).mono ?_); rintro e1 w1 ⟨v1, u1, rfl, hR, hU, hb⟩; have HR3 := Aside0.mk hR; have HU3 := Aside0.mk hU; have HB1 := Aside0.mk (below_step HB.out hb); clear hR hU hb)
   first | go_ret3 | go_ret2 | go_ret
   exact ⟨_, _, rfl, Kd.N_lower HR3.out HB.out.size, Kd.N_lower HU3.out HB.out.size, HB1.out⟩
def FlIs (o a b : List S26) (r : List S26 × List S56) : Prop := ∃ da db, (∃ K, ∀ k, K ≤ k → FlAt k o a b da db) ∧ r = (jnO 0 o (sideOf o.length da) (sideOf o.length db), jnB 0 o (sideOf o.length da) (sideOf o.length db))
open Classical in
noncomputable def merge_Flows.f (o a b : List S26) : Option (List S26 × List S56 × Int) := if h : ∃ r, FlIs o a b r then some (h.choose.1, h.choose.2, 0) else none
theorem n56_R {e : Nat} {w : World} {base : Nat} {ok : Nat → Prop} {v : Value} {xs : List S56} (h : Kd.N k56 e w base ok v xs) : Kd.R k56 e w base (fun _ => True) v xs := by
 obtain ⟨h0, rows, hl, ⟨_, inner, ho, hr⟩, hf⟩ := h
 refine ⟨fun _ _ => trivial, inner, by rw [← hl]; exact ho, ⟨by rw [← hl]; exact hr.1, fun j x hx => ?_⟩⟩
 have hj : j < rows.length := by rw [hl]; exact (List.getElem?_eq_some_iff.1 hx).1
 have hc := hr.2 j _ (List.getElem?_eq_getElem hj)
 have h2 := k56_open (Kd.FK_now (hf j x _ hx (List.getElem?_eq_getElem hj)))
 have hc' : (inner.drop (j * k56.sz)).take k56.sz = rows[j] := hc.1
 rw [hc', h2]
 exact k56_mkM _ _ _ x
theorem merge_Flows.calls (A0 : Option Addr) (c0 : Nat) (l0 : List S26) (A1 : Option Addr) (c1 : Nat) (l1 : List S26) (A2 : Option Addr) (c2 : Nat) (l2 : List S26) (r1 : List S26) (r2 : List S56) (r3 : Int) (w : World)
  (hr0 : Kd.C k26 w A0 l0.length l0) (hc0 : l0.length ≤ c0) (hr1 : Kd.C k26 w A1 l1.length l1) (hc1 : l1.length ≤ c1) (hr2 : Kd.C k26 w A2 l2.length l2) (hc2 : l2.length ≤ c2) (h : merge_Flows.f l0 l1 l2 = some (r1, r2, r3)) :
  Calls Try.prog 27 #[.slice A0 l0.length c0, .slice A1 l1.length c1, .slice A2 l2.length c2] w fun e w' => ∃ v0_ v1_ : Value, e = .returned (.tuple #[v0_, v1_, .int .i64 r3]) ∧ Kd.N k26 26 w' w.heap.size (fun _ => True) v0_ r1 ∧ Kd.R k56 56 w' w.heap.size (fun _ => True) v1_ r2 ∧ Below w.heap.size w w' := by
 unfold merge_Flows.f at h
 split at h
 ·rename_i hx
  obtain ⟨da, db, ⟨k, hfk⟩, he⟩ := hx.choose_spec
  have hf := hfk k (Nat.le_refl k)
  have h' := Option.some.inj h
  rw [he] at h'
  injection h' with h1 h'
  injection h' with h2 h3
  subst h1
  subst h2
  subst h3
  refine (mFlows_calls k A0 c0 l0 A1 c1 l1 A2 c2 l2 da db w hr0 hc0 hr1 hc1 hr2 hc2 hf).mono ?_
  rintro e w' ⟨v, u, rfl, hN, hU, hb⟩
  exact ⟨v, u, rfl, hN, n56_R hU, hb⟩
 ·cases h
end Go.Proofs.Ytlcodfjlbhjkbaa.PDelta
end

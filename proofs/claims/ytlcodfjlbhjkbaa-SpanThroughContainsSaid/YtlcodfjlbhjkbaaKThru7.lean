/- The statement 'SpanThroughContains': what is left of a range contains its elements that are still there, and no other but added ones. -/
import Derived.Test.YtlcodfjlbhjkbaaKThru6
import Derived.Test.YtlcodfjlbhjkbaaRows
import Derived.WalkKit
import Derived.ProofKit
import Derived.OpenShut
import Derived.ShutString
import Derived.ChangeOld
import Derived.Below
import Derived.SizedLaws
set_option linter.unusedVariables false
set_option linter.unusedSimpArgs false
section
namespace Go.Proofs.Ytlcodfjlbhjkbaa.PDelta
open Go.RowKit Go.Proofs.YtlcodfjlbhjkbaaW.PrintWords Go.Proofs.YtlcodfjlbhjkbaaW.PrintLast Go.Proofs.YtlcodfjlbhjkbaaW.PrintMore
theorem spans_ev : Ev (fun k => chancerykeep1_spans.f k) true := ⟨100, fun _ hk => at_rounds chancerykeep1_spans.mono hk (by kernel_rfl : chancerykeep1_spans.f 100 = some true)⟩
theorem hull_ends : ∀ (l : List S121) (fr tz old now first last : Int), Ax.Pos l → 0 ≤ old → 0 ≤ now → 0 ≤ last → last ≤ now →
  Ax.hullS l fr tz old now first last = (first, last) ∨
  ((∃ p, fr ≤ p ∧ p < tz ∧ old ≤ p ∧ 0 ≤ Ax.placeS l old now p ∧ (Ax.hullS l fr tz old now first last).2 = Ax.placeS l old now p + 1) ∧
   (last ≠ 0 ∧ (Ax.hullS l fr tz old now first last).1 = first ∨ last = 0 ∧ ∃ p, fr ≤ p ∧ p < tz ∧ old ≤ p ∧ 0 ≤ Ax.placeS l old now p ∧ (Ax.hullS l fr tz old now first last).1 = Ax.placeS l old now p))
 | [], fr, tz, old, now, first, last, _, _, _, _, _ => .inl rfl
 | s :: l, fr, tz, old, now, first, last, h, ho, hn, hl, hln => by
  obtain ⟨hk, h1⟩ := h.head
  have ha : old ≤ Ax.mx2 fr old ∧ fr ≤ Ax.mx2 fr old ∧ (Ax.mx2 fr old = fr ∨ Ax.mx2 fr old = old) := by unfold Ax.mx2; split <;> omega
  have hb := Ax.mn_le tz (old + s.f1)
  rw [Ax.hullS]
  have hpl : ∀ p, old ≤ p → Ax.placeS (s :: l) old now p = if s.f0 = 1 then Ax.placeS l old (now + s.f1) p else if s.f0 = 0 then (if p < old + s.f1 then now + p - old else Ax.placeS l (old + s.f1) (now + s.f1) p) else if p < old + s.f1 then -1 else Ax.placeS l (old + s.f1) now p := fun p _ => rfl
  by_cases c : s.f0 = 0 ∧ Ax.mx2 fr old < Ax.mn tz (old + s.f1)
  ·rw [if_pos c, if_pos c]
   obtain ⟨c0, c1⟩ := c
   rw [if_neg (show ¬ s.f0 = 1 by omega), if_neg (show ¬ s.f0 = 2 by omega)]
   have keep : ∀ p, old ≤ p → p < old + s.f1 → Ax.placeS (s :: l) old now p = now + p - old := fun p h1 h2 => by rw [hpl p h1, if_neg (by omega), if_pos c0, if_pos h2]
   have rest : ∀ p, old + s.f1 ≤ p → Ax.placeS (s :: l) old now p = Ax.placeS l (old + s.f1) (now + s.f1) p := fun p h1 => by rw [hpl p (by omega), if_neg (by omega), if_pos c0, if_neg (by omega)]
   have first_ : last ≠ 0 ∧ (if last = 0 then now + Ax.mx2 fr old - old else first) = first ∨ last = 0 ∧ ∃ p, fr ≤ p ∧ p < tz ∧ old ≤ p ∧ 0 ≤ Ax.placeS (s :: l) old now p ∧ (if last = 0 then now + Ax.mx2 fr old - old else first) = Ax.placeS (s :: l) old now p := by
    by_cases d : last = 0
    ·refine .inr ⟨d, Ax.mx2 fr old, by omega, by omega, by omega, ?_, ?_⟩
     ·rw [keep _ (by omega) (by omega)]; omega
     ·rw [if_pos d, keep _ (by omega) (by omega)]
    ·exact .inl ⟨d, if_neg d⟩
   rcases hull_ends l fr tz (old + s.f1) (now + s.f1) (if last = 0 then now + Ax.mx2 fr old - old else first) (now + Ax.mn tz (old + s.f1) - old) h.tail (by omega) (by omega) (by omega) (by omega) with e | ⟨⟨p, p1, p2, p3, p4, p5⟩, e⟩
   ·rw [e]
    refine .inr ⟨⟨Ax.mn tz (old + s.f1) - 1, by omega, by omega, by omega, ?_, ?_⟩, first_⟩
    ·rw [keep _ (by omega) (by omega)]; omega
    ·rw [keep _ (by omega) (by omega)]; show now + _ - old = _; omega
   ·rcases e with ⟨e1, e2⟩ | ⟨e1, _⟩
    ·rw [e2]
     exact .inr ⟨⟨p, p1, p2, by omega, by rw [rest p p3]; exact p4, by rw [rest p p3]; exact p5⟩, first_⟩
    ·omega
  ·rw [if_neg c, if_neg c]
   have rest : ∀ p, (if s.f0 = 1 then old else old + s.f1) ≤ p → old ≤ p → Ax.placeS (s :: l) old now p = Ax.placeS l (if s.f0 = 1 then old else old + s.f1) (if s.f0 = 2 then now else now + s.f1) p := by
    intro p h1 h2
    rw [hpl p h2]
    rcases hk with e | e | e
    ·rw [if_neg (show ¬ s.f0 = 1 by omega)] at h1
     rw [if_neg (by omega), if_pos e, if_neg (by omega), if_neg (show ¬ s.f0 = 1 by omega), if_neg (show ¬ s.f0 = 2 by omega)]
    ·rw [if_pos e, if_pos e, if_neg (show ¬ s.f0 = 2 by omega)]
    ·rw [if_neg (show ¬ s.f0 = 1 by omega)] at h1
     rw [if_neg (by omega), if_neg (by omega), if_neg (by omega), if_neg (show ¬ s.f0 = 1 by omega), if_pos e]
   have ho' : old ≤ (if s.f0 = 1 then old else old + s.f1) := by split <;> omega
   rcases hull_ends l fr tz (if s.f0 = 1 then old else old + s.f1) (if s.f0 = 2 then now else now + s.f1) first last h.tail (by omega) (by split <;> omega) hl (by split <;> omega) with e | ⟨⟨p, p1, p2, p3, p4, p5⟩, e⟩
   ·exact .inl e
   ·refine .inr ⟨⟨p, p1, p2, by omega, by rw [rest p p3 (by omega)]; exact p4, by rw [rest p p3 (by omega)]; exact p5⟩, ?_⟩
    rcases e with e | ⟨e1, p', q1, q2, q3, q4, q5⟩
    ·exact .inl e
    ·exact .inr ⟨e1, p', q1, q2, by omega, by rw [rest p' q3 (by omega)]; exact q4, by rw [rest p' q3 (by omega)]; exact q5⟩
section
variable {n : Nat} {raw : List Int} {o : List S95} {a : List S121}
def Chg.hull (a : List S121) (fr tz : Int) : Int × Int := Ax.hullS a fr tz 0 0 0 0
theorem Chg.hull_ev (h : Chg n raw o a) {fr tz : Int} (h0 : 0 ≤ fr) (h1 : fr ≤ 100) (h2 : 0 ≤ tz) (h3 : tz ≤ 100) : Ev (fun k => axis_Hull.f k a fr tz) (Chg.hull a fr tz) :=
 ⟨1000, fun k hk => Ax.hull_l0 a [] k fr tz 0 0 h.fn (by have := h.exl; show (Ax.ex a).length ≤ _; omega) h0 (by omega) h2 (by omega) (by have := h.exl; have := Ax.Fn.len _ _ h.fn; omega)⟩
theorem w10 : wrap64 (1 - 1) = 0 := by rw [w64 (by omega) (by omega)]; rfl
def thru (lo hi : Int) : List S44 := if lo < hi then [⟨lo, hi⟩] else []
theorem Chg.thru_ev (h : Chg n raw o a) (hn : n ≤ 26) {fr tz : Int} (h0 : 0 ≤ fr) (h1 : fr < tz) (h2 : tz ≤ (n : Int)) : Ev (fun k => span_Through.f k o [⟨fr, tz⟩]) (thru (Chg.hull a fr tz).1 (Chg.hull a fr tz).2, 0) := by
 obtain ⟨m, hm⟩ := h.lens
 have hck : Ev (fun k => span_Check.f k [⟨fr, tz⟩]) 0 := by
  refine Ev.congr (fun k => by unfold span_Check.f; rfl) (Ev.step (f := fun k => span_Check.j1 k [⟨fr, tz⟩] 0 [⟨fr, tz⟩] 1 0 false fr tz) (fun k => ?_) (Ev.step (f := fun k => span_Check.l0 k [⟨fr, tz⟩] [⟨fr, tz⟩] 1 1) (fun k => ?_) (Ev.step (f := fun _ => some 0) (fun k => ?_) (Ev.now _))))
  ·simp only [span_Check.l0, List.length_singleton]
   rw [if_pos (by omega), if_pos (by omega), if_pos (by omega), show rd_T44 [⟨fr, tz⟩] 0 = ⟨fr, tz⟩ from rfl, if_neg (show ¬ fr < 0 by omega), if_neg (show ¬ tz ≤ fr by omega), decide_eq_false (show ¬ tz > 2147483647 by omega)]
   rfl
  ·simp only [span_Check.j1]
   rw [if_neg Bool.false_ne_true, if_neg (by omega), show wrap64 (0 + 1) = 1 from wrap_up (by omega) (by omega)]
  ·simp only [span_Check.l0]
   rw [if_neg (by omega)]
 have hln : Ev (fun k => axis_Lengths.f k a) ((n : Int), m, 0) := Ev.congr (fun k => by unfold axis_Lengths.f; rfl) (Ev.bind h.check (Ev.congr (fun k => by rw [if_pos rfl]) (Ev.bind hm (Ev.now _))))
 refine Ev.congr (fun k => by unfold span_Through.f; rfl) (Ev.bind h.axis (Ev.congr (fun k => by rw [if_pos rfl]) (Ev.bind hck (Ev.congr (fun k => by rw [if_pos rfl]) (Ev.bind hln ?_)))))
 obtain ⟨lo, hi, e⟩ : ∃ lo hi, Chg.hull a fr tz = (lo, hi) := ⟨_, _, rfl⟩
 have hh := h.hull_ev (fr := fr) (tz := tz) (by omega) (by omega) (by omega) (by omega)
 rw [e] at hh ⊢
 have end_ : ∀ t : List S44, Ev (fun k => span_Through.l0 k a t [⟨fr, tz⟩] 1 1) (t, 0) := fun t => by
  refine Ev.step (f := fun _ => some (t, 0)) (fun k => ?_) (Ev.now _)
  simp only [span_Through.l0]
  rw [if_neg (by omega)]
 refine Ev.congr (f := fun k => span_Through.j0 k [⟨fr, tz⟩] a false) (fun k => ?_) (Ev.step (f := fun k => span_Through.l0 k a [] [⟨fr, tz⟩] 1 0) (fun k => ?_) (Ev.step (f := fun k => (axis_Hull.f k a fr tz).bind fun r => if r.1 < r.2 then (span_add.f [] r.1 r.2).bind fun t => span_Through.l0 k a t [⟨fr, tz⟩] 1 1 else span_Through.l0 k a [] [⟨fr, tz⟩] 1 1) (fun k => ?_) (Ev.bind hh ?_)))
 ·rw [show ((([⟨fr, tz⟩] : List S44).length : Nat) : Int) = 1 from rfl]
  simp only [w10]
  rw [if_pos (show (1 : Int) > 0 by omega), if_pos (by omega), if_pos (by omega), show rd_T44 [⟨fr, tz⟩] 0 = ⟨fr, tz⟩ from rfl, decide_eq_false (show ¬ tz > (n : Int) by omega)]
 ·simp only [span_Through.j0]
  rw [if_neg Bool.false_ne_true]
  rfl
 ·simp only [span_Through.l0]
  rw [if_pos (by omega), if_pos (by omega), if_pos (by simp), show rd_T44 [⟨fr, tz⟩] 0 = ⟨fr, tz⟩ from rfl, show wrap64 (0 + 1) = 1 from wrap_up (by omega) (by omega)]
 ·by_cases c : lo < hi
  ·refine Ev.congr (fun k => ?_) (end_ (thru lo hi))
   simp only
   rw [if_pos c, span_add.f, if_neg (by rw [show wrap64 ((([] : List S44).length : Int) - 1) = -1 from (w64 (by simp) (by simp)).trans (by simp)]; omega), if_pos (by simp), Option.bind_some, thru, if_pos c]
   rfl
  ·refine Ev.congr (fun k => ?_) (end_ (thru lo hi))
   simp only
   rw [if_neg c, thru, if_neg c]
theorem Chg.in_iff (h : Chg n raw o a) {fr tz : Int} (h0 : 0 ≤ fr) {p j : Nat} (hp : posK ((units o).map kd) p = some j) : ((Chg.hull a fr tz).1 ≤ (j : Int) ∧ (j : Int) < (Chg.hull a fr tz).2) ↔ (fr ≤ (p : Int) ∧ (p : Int) < tz) := by
 have hpos := Ax.Fn.pos h.fn
 have hpl : ∀ q : Nat, Ax.placeS a 0 0 (q : Int) = placeO 0 (posK ((units o).map kd) q) := fun q => h.pl_is q
 have hj : Ax.placeS a 0 0 (p : Int) = (j : Int) := by rw [hpl, hp]; show (0 : Int) + j = j; omega
 constructor
 ·rintro ⟨c1, c2⟩
  rcases hull_ends a fr tz 0 0 0 0 hpos (by omega) (by omega) (by omega) (by omega) with e | ⟨⟨q, q1, q2, q3, q4, q5⟩, e⟩
  ·unfold Chg.hull at c2
   rw [e] at c2
   simp only at c2
   omega
  ·rcases e with ⟨e, _⟩ | ⟨_, q', r1, r2, r3, r4, r5⟩
   ·exact absurd rfl e
   ·unfold Chg.hull at c1 c2
    obtain ⟨q, rfl⟩ : ∃ m : Nat, q = m := ⟨q.toNat, by omega⟩
    obtain ⟨q', rfl⟩ : ∃ m : Nat, q' = m := ⟨q'.toNat, by omega⟩
    rw [q5] at c2
    rw [r5] at c1
    rw [hpl] at q4 c2 r4 c1
    cases hq : posK ((units o).map kd) q with
    | none => rw [hq] at q4; exact absurd q4 (by show ¬ (0 : Int) ≤ -1; omega)
    | some x =>
     cases hq' : posK ((units o).map kd) q' with
     | none => rw [hq'] at r4; exact absurd r4 (by show ¬ (0 : Int) ≤ -1; omega)
     | some x' =>
      rw [hq] at c2
      rw [hq'] at c1
      have c2' : (j : Int) < (0 + (x : Int)) + 1 := c2
      have c1' : (0 + (x' : Int)) ≤ (j : Int) := c1
      refine ⟨?_, ?_⟩
      ·by_cases d : p < q'
       ·have := posK_mono _ p q' j x' d hp hq'
        omega
       ·omega
      ·by_cases d : q < p
       ·have := posK_mono _ q p x j d hq hp
        omega
       ·omega
 ·rintro ⟨c1, c2⟩
  exact Ax.hull_has a fr tz 0 0 0 0 (p : Int) (j : Int) hpos (by omega) (by omega) (by omega) (by omega) (fun e => absurd rfl e) c1 c2 (by omega) hj (by omega)
end
theorem in_is (x lo hi : Int) : chanceryref1_In.f x lo hi = some (decide (lo ≤ x) && decide (x ≤ hi)) := by
 unfold chanceryref1_In.f
 by_cases c : x ≥ lo
 ·rw [if_pos c, decide_eq_true (show lo ≤ x from c), Bool.true_and]
 ·rw [if_neg c, decide_eq_false (show ¬ lo ≤ x from c), Bool.false_and]
theorem Chg.key {n : Nat} {raw : List Int} {o : List S95} {a : List S121} (h : Chg n raw o a) {fr tz : Int} (h0 : 0 ≤ fr) {j : Nat} (hj : j < (run (abc n) (units o)).1.length) :
  -100 ≤ (rd_T26 (run (abc n) (units o)).1 (j : Int)).f0 - 97 ∧ (rd_T26 (run (abc n) (units o)).1 (j : Int)).f0 - 97 ≤ n ∧
  (0 ≤ (rd_T26 (run (abc n) (units o)).1 (j : Int)).f0 - 97 → (((Chg.hull a fr tz).1 ≤ (j : Int) ∧ (j : Int) < (Chg.hull a fr tz).2) ↔ (fr ≤ (rd_T26 (run (abc n) (units o)).1 (j : Int)).f0 - 97 ∧ (rd_T26 (run (abc n) (units o)).1 (j : Int)).f0 - 97 < tz))) := by
 have hc := h.ok.counts
 have hrd : rd_T26 (run (abc n) (units o)).1 (j : Int) = (run (abc n) (units o)).1[j] := by
  simp [rd_T26, List.getD_eq_getElem?_getD, List.getElem?_eq_getElem hj]
 rw [hrd]
 rcases run_from (units o) (abc n) j _ (by rw [hc.1, abc_len]) (List.getElem?_eq_getElem hj) with e | ⟨p, hp, t, e1, e2⟩
 ·have := h.ok.adds e
  exact ⟨by omega, by omega, fun h => by omega⟩
 ·have hp' : p < n := by rw [abc_len] at hp; exact hp
  have : (run (abc n) (units o)).1[j].f0 = 97 + (p : Int) := by rw [e2, abc_get]; rfl
  rw [this, show 97 + (p : Int) - 97 = p by omega]
  exact ⟨by omega, by omega, fun _ => h.in_iff h0 e1⟩
theorem thr_l1 {n : Nat} {raw : List Int} {o : List S95} {a : List S121} (h : Chg n raw o a) (hn : n ≤ 26) {fr tz : Int} (h0 : 0 ≤ fr) (m : Nat) : ∀ j : Nat, j + m = (run (abc n) (units o)).1.length →
  Ev (fun k => chancerykeep1_SpanThroughContains.l1 k (n : Int) fr tz (run (abc n) (units o)).1 (thru (Chg.hull a fr tz).1 (Chg.hull a fr tz).2) ((run (abc n) (units o)).1.length : Int) (j : Int)) true := by
 induction m with
 | zero =>
  intro j hj
  refine Ev.step (f := fun _ => some true) (fun k => ?_) (Ev.now _)
  simp only [chancerykeep1_SpanThroughContains.l1]
  rw [if_neg (by omega)]
 | succ m ih =>
  intro j hj
  have hlt : j < (run (abc n) (units o)).1.length := by omega
  obtain ⟨k1, k2, k3⟩ := h.key (fr := fr) (tz := tz) h0 hlt
  have hg := h.glen
  have ih' := ih (j + 1) (by omega)
  obtain ⟨G, hG⟩ : ∃ G, G = (run (abc n) (units o)).1 := ⟨_, rfl⟩
  obtain ⟨lo, hlo⟩ : ∃ x, x = (Chg.hull a fr tz).1 := ⟨_, rfl⟩
  obtain ⟨hi, hhi⟩ : ∃ x, x = (Chg.hull a fr tz).2 := ⟨_, rfl⟩
  rw [← hG, ← hlo, ← hhi] at ih' k3
  rw [← hG] at k1 k2 hlt hg
  rw [← hG, ← hlo, ← hhi]
  obtain ⟨c, hc⟩ : ∃ c, c = (rd_T26 G (j : Int)).f0 - 97 := ⟨_, rfl⟩
  rw [← hc] at k1 k2 k3
  have hw : wrap64 ((rd_T26 G (j : Int)).f0 - 97) = c := by rw [← hc]; exact w64 (by omega) (by omega)
  have hwn : wrap64 ((n : Int) - 1) = (n : Int) - 1 := w64 (by omega) (by omega)
  refine Ev.step (fun k => ?_) ih'
  have tail : ∀ b : Bool, (0 ≤ c → (b = true ↔ (fr ≤ c ∧ c < tz))) → ((chanceryref1_In.f c 0 ((n : Int) - 1)).bind fun t => if t = true then (if c ≥ fr then (if (b != decide (c < tz)) = true then some false else chancerykeep1_SpanThroughContains.l1 k (n : Int) fr tz G (thru lo hi) (G.length : Int) ((j + 1 : Nat) : Int)) else (if (b != false) = true then some false else chancerykeep1_SpanThroughContains.l1 k (n : Int) fr tz G (thru lo hi) (G.length : Int) ((j + 1 : Nat) : Int))) else chancerykeep1_SpanThroughContains.l1 k (n : Int) fr tz G (thru lo hi) (G.length : Int) ((j + 1 : Nat) : Int)) = chancerykeep1_SpanThroughContains.l1 k (n : Int) fr tz G (thru lo hi) (G.length : Int) ((j + 1 : Nat) : Int) := by
   intro b hb
   rw [in_is, Option.bind_some]
   by_cases d : (decide (0 ≤ c) && decide (c ≤ (n : Int) - 1)) = true
   ·rw [if_pos d]
    rw [Bool.and_eq_true, decide_eq_true_eq, decide_eq_true_eq] at d
    have hb := hb d.1
    by_cases e : c ≥ fr
    ·rw [if_pos e]
     have : b = decide (c < tz) := by
      cases b with
      | true => exact (decide_eq_true (hb.1 rfl).2).symm
      | false => exact (decide_eq_false (fun h => Bool.false_ne_true (hb.2 ⟨e, h⟩))).symm
     rw [this, if_neg (by simp)]
    ·rw [if_neg e]
     have : b = false := by
      cases b with
      | true => exact absurd (hb.1 rfl).1 e
      | false => rfl
     rw [this, if_neg (by simp)]
   ·rw [if_neg d]
  simp only [chancerykeep1_SpanThroughContains.l1]
  rw [if_pos (by omega), if_pos (by omega), if_pos (by omega), hw, hwn, wrap_up (by omega) (by omega), show (j : Int) + 1 = ((j + 1 : Nat) : Int) from by omega]
  by_cases q : lo < hi
  ·have e : thru lo hi = [⟨lo, hi⟩] := if_pos q
   rw [show (((thru lo hi).length : Nat) : Int) = 1 by rw [e]; rfl, if_pos rfl, if_pos (by omega), show rd_T44 (thru lo hi) 0 = ⟨lo, hi⟩ by rw [e]; rfl]
   by_cases q2 : (j : Int) ≥ lo
   ·rw [if_pos q2]
    exact tail (decide ((j : Int) < hi)) (fun hc0 => by
     rw [decide_eq_true_eq, ← k3 hc0]
     exact ⟨fun h => ⟨q2, h⟩, fun h => h.2⟩)
   ·rw [if_neg q2]
    exact tail false (fun hc0 => by
     rw [← k3 hc0]
     exact ⟨fun h => absurd h Bool.false_ne_true, fun h => absurd h.1 q2⟩)
  ·have e : thru lo hi = [] := if_neg q
   rw [show (((thru lo hi).length : Nat) : Int) = 0 by rw [e]; rfl, if_neg (show ¬ (0 : Int) = 1 by omega)]
   exact tail false (fun hc0 => by
    rw [← k3 hc0]
    exact ⟨fun h => absurd h Bool.false_ne_true, fun h => by omega⟩)
theorem thr_l0 (raw : List Int) (n : Nat) (hn : n ≤ 26) {fr tz : Int} (h0 : 0 ≤ fr) (h1 : fr < tz) (h2 : tz ≤ (n : Int)) (m : Nat) : ∀ i : Nat, i + m = n → Ev (fun k => chancerykeep1_SpanThroughContains.l0 k (n : Int) raw fr tz (abc i) (n : Int) (i : Int)) true := by
 induction m with
 | zero =>
  intro i hi
  obtain rfl : i = n := by omega
  obtain ⟨o, a, h⟩ := chg_ev i raw hn
  refine Ev.step (f := fun k => (delta_Apply.f k (abc i) o).bind fun r => (span_Through.f k o [⟨fr, tz⟩]).bind fun q => if r.2 = 0 then (if q.2 = 0 then chancerykeep1_SpanThroughContains.j2 k (i : Int) fr tz r.1 q.1 (decide ((q.1.length : Int) > 1)) else chancerykeep1_SpanThroughContains.j2 k (i : Int) fr tz r.1 q.1 true) else chancerykeep1_SpanThroughContains.j2 k (i : Int) fr tz r.1 q.1 true) (fun k => ?_)
   (Ev.bind h.apply (Ev.bind (h.thru_ev hn h0 h1 h2) (Ev.congr (f := fun k => chancerykeep1_SpanThroughContains.j2 k (i : Int) fr tz (run (abc i) (units o)).1 (thru (Chg.hull a fr tz).1 (Chg.hull a fr tz).2) false) (fun k => ?_) (Ev.step (fun k => ?_) (thr_l1 (tz := tz) h hn h0 _ 0 (Nat.zero_add _))))))
  ·simp only [chancerykeep1_SpanThroughContains.l0]
   rw [if_neg (by omega), h.ch, Option.bind_some]
  ·have hl : (thru (Chg.hull a fr tz).1 (Chg.hull a fr tz).2).length ≤ 1 := by unfold thru; split <;> simp
   rw [if_pos rfl, if_pos rfl, decide_eq_false (show ¬ (((thru (Chg.hull a fr tz).1 (Chg.hull a fr tz).2).length : Nat) : Int) > 1 by omega)]
  ·simp only [chancerykeep1_SpanThroughContains.j2]
   rw [if_neg Bool.false_ne_true]
   rfl
 | succ m ih =>
  intro i hi
  refine Ev.step (fun k => ?_) (ih (i + 1) (by omega))
  simp only [chancerykeep1_SpanThroughContains.l0]
  rw [if_pos (by omega), if_pos (by rw [abc_len]; omega), abc_succ, wrap_up (by omega) (by omega), show wrap64 (97 + (i : Int)) = 97 + (i : Int) from w64 (by omega) (by omega)]
  rfl
theorem thr_ev (a0 : Int) (l1 : List Int) (a2 a3 : Int) : Ev (fun k => chancerykeep1_SpanThroughContains.f k a0 l1 a2 a3) true := by
 obtain ⟨r, hr, h0, h1⟩ := Ax.within_ok a0 1 26 (by omega) (by omega) (by omega)
 obtain ⟨n, rfl⟩ : ∃ n : Nat, r = n := ⟨r.toNat, by omega⟩
 obtain ⟨fr, hfr, f0, f1⟩ := Ax.within_ok a2 0 ((n : Int) - 1) (by omega) (by omega) (by omega)
 obtain ⟨tz, htz, t0, t1⟩ := Ax.within_ok a3 (fr + 1) (n : Int) (by omega) (by omega) (by omega)
 refine Ev.congr (fun k => by unfold chancerykeep1_SpanThroughContains.f chancerykeep1_deltas.f; rfl) (Ev.bind spans_ev (Ev.congr (f := fun k => chancerykeep1_SpanThroughContains.j0 k a0 l1 a2 a3 false) (fun k => ?_) (Ev.step (fun k => ?_) (thr_l0 l1 n (by omega) f0 (by omega) t1 n 0 (by omega)))))
 ·rw [if_pos rfl, Option.bind_some]
  rfl
 ·simp only [chancerykeep1_SpanThroughContains.j0]
  rw [if_neg Bool.false_ne_true, hr, Option.bind_some, show wrap64 ((n : Int) - 1) = (n : Int) - 1 from w64 (by omega) (by omega), hfr, Option.bind_some, show wrap64 (fr + 1) = fr + 1 from w64 (by omega) (by omega), htz, Option.bind_some]
  rfl
end Go.Proofs.Ytlcodfjlbhjkbaa.PDelta
end
section
namespace Go.Proofs.Ytlcodfjlbhjkbaa.Pure
open Go.RowKit Go.Proofs.Ytlcodfjlbhjkbaa.PDelta Go.Proofs.YtlcodfjlbhjkbaaW.PrintWords Go.Proofs.YtlcodfjlbhjkbaaW.PrintLast
theorem SpanThroughContains : chancerykeep1_SpanThroughContains.Pure := fun a0 l1 a2 a3 _ _ _ _ _ _ => (thr_ev a0 l1 a2 a3).rounds
end Go.Proofs.Ytlcodfjlbhjkbaa.Pure
end
section
namespace Go.Proofs.Ytlcodfjlbhjkbaa.spanThroughContains
open Go.ChangeShapes Go.WideShapes Go.ChangeAt Go.RowKit
open Go.ChangeMaps (open_string shut_string)
theorem own : ownKnob Try.prog.godebug = none := by kernel_rfl
theorem laidOut : laidOutB Try.prog = true := by kernel_rfl
def IsRow (k : IntKind) (w : World) (a : Option Addr) (len cap : Nat) (zs : List Int) : Prop :=
 (a = none ∧ len = 0 ∧ cap = 0 ∧ zs = []) ∨
 ∃ x, a = some x ∧ len ≤ cap ∧ cap ≤ maxLen ∧ zs.length = cap ∧ (∀ i, i < zs.length → w.cell? (x.add i) = some (.int k (zs.getD i 0))) ∧ ∀ n ∈ zs, (Lit.int k n).wf = true
set_option maxRecDepth 100000 in
theorem lifted (os : Os) (started : os.Started) (H : Type) (enc : TypeId × Value → H) :
  ReturnsInHanded {} Try.checked os 4 .any (Rows.spanThroughContainsSpec.pre6 enc Try.prog Try.f4 Rows.spanThroughContainsRow.domain false) (Rows.spanThroughContainsSpec.post enc Try.prog Try.f4 false true false false) := by
 refine returnsInHanded_of_change_sized (C := Try.checked) own started (by kernel_rfl) Try.func4
  (ChangeSpec.witness6 (enc := enc) (C := Try.checked) false ⟨#[], #[.int .i64 0, .slice none 0 0, .int .i64 0, .int .i64 0], []⟩ 8 (by kernel_rfl) (by kernel_rfl) (by kernel_rfl) (by kernel_rfl)) ?_
 intro W base args ds gs before hval0 hW hcnd hsz0 _
 have hsz : (DataW.weightsEach Try.prog (Try.f4.params.toList ++ Rows.spanThroughContainsSpec.plain.varTypes Try.prog) (ds ++ gs)).all (· ≤ reachBytes) = true := hsz0
 have hval : ∀ (j : Nat) t v, Try.f4.params[j]? = some t → args[j]? = some v → Value.okWide Try.prog W .any base t v := hval0
 have hW' := hW
 obtain ⟨p, q, hA0, hV, rfl, hfz, hnd⟩ := hW
 have hA : DataW.TrodAll enc Try.prog W 0 (fun _ => true) true Try.f4.params.toList args.toList ds p := hA0
 rw [Try.params4] at hA hval hsz
 obtain ⟨v0, vs0, d0, ds0, p0, q0, hargs, rfl, rfl, h0, r0⟩ := trodAll_cons hA
 obtain ⟨v1, vs1, d1, ds1, p1, q1, rfl, rfl, rfl, h1, r1⟩ := trodAll_cons r0
 obtain ⟨v2, vs2, d2, ds2, p2, q2, rfl, rfl, rfl, h2, r2⟩ := trodAll_cons r1
 obtain ⟨v3, vs3, d3, ds3, p3, q3, rfl, rfl, rfl, h3, r3⟩ := trodAll_cons r2
 obtain ⟨rfl, rfl, rfl⟩ := trodAll_nil r3
 obtain rfl : args = #[v0, v1, v2, v3] := by cases args; simp_all
 obtain ⟨rfl, rfl⟩ := trodVars_none hV
 obtain ⟨a0, rfl, rfl, rfl, w0⟩ := open_int Try.underlying3 (hval 0 3 v0 rfl rfl) h0
 obtain ⟨a1, len1, cap1, rfl⟩ := okWide_slice Try.underlying35 (hval 1 35 v1 rfl rfl)
 have k1 := h1
 have lt1 : ∀ x ∈ p1, x.block < W.heap.size := by obtain ⟨m, hm⟩ := k1; exact DataW.trod_lt m _ _ _ hm
 obtain ⟨z1, w1⟩ : ∃ zs, IsRow .i64 W a1 len1 cap1 zs := by
  obtain ⟨fuel, hf⟩ := h1
  rcases open_ints Try.underlying35 Try.underlying3 (by kernel_rfl) hf with ⟨hcs, _⟩ | ⟨x, l, c, zs, hcs, _, hl, hm, hz, _, hcell, hwz⟩
  ·simp [Value.cells] at hcs
   obtain ⟨rfl, rfl, rfl⟩ := hcs
   exact ⟨[], .inl ⟨rfl, rfl, rfl, rfl⟩⟩
  ·simp [Value.cells] at hcs
   obtain ⟨rfl, rfl, rfl⟩ := hcs
   exact ⟨zs, .inr ⟨_, rfl, hl, hm, by simpa using hz, hcell, hwz⟩⟩
 have y1 : len1 * 8 ≤ 140737488351232 := YtlcodfjlbhjkbaaW.PrintWords.sized_ints hsz (j := 1) (t := 35) rfl rfl Try.underlying35 Try.underlying3 (by kernel_rfl) (by kernel_rfl) h1
 obtain ⟨a2, rfl, rfl, rfl, w2⟩ := open_int Try.underlying3 (hval 2 3 v2 rfl rfl) h2
 obtain ⟨a3, rfl, rfl, rfl, w3⟩ := open_int Try.underlying3 (hval 3 3 v3 rfl rfl) h3
 clear hA0 hval0 hsz0 hsz
 refine (PDelta.chancerykeep1_SpanThroughContains.walk Pure.SpanThroughContains a0 a1 len1 cap1 z1 a2 a3 W w0 w1 y1 w2 w3).mono fun e W' ⟨he, bel⟩ => ?_
 subst he
 exact ⟨_, rfl, _, _, _, [], _, [], hW', trodAll_mk1 (shut_bool Try.underlying4 _), (trodAll_cons_mk (shut_int Try.underlying3 w0) (trodAll_cons_mk (Below.trod laidOut (by kernel_rfl) (of_decide_eq_true (by kernel_rfl)) k1 bel lt1) (trodAll_cons_mk (shut_int Try.underlying3 w2) (trodAll_cons_mk (shut_int Try.underlying3 w3) trodAll_mk0)))), rfl, bel.frame _, fun h => by cases h⟩
theorem over : Rows.spanThroughContainsRow.holds Try.pinned (OpenSpec.ofChange Rows.spanThroughContainsSpec) :=
 OpenClaim.holds_of_wide 4 Try.f4 rfl rfl rfl rfl rfl rfl rfl ⟨rfl, rfl, rfl, rfl, rfl⟩ rfl rfl rfl rfl rfl (by kernel_rfl) Try.func4 (by kernel_rfl)
  (of_decide_eq_true (by kernel_rfl)) (by unfold Func.isWrapper; first | (rw [if_pos (by decide +kernel)]; kernel_rfl) | (rw [if_neg (by decide +kernel)]; exact ⟨rfl, rfl⟩))
  (fun os started H enc _ => lifted os started H enc)
theorem proved : Rows.SpanThroughContainsSaid := over
#print axioms proved
end Go.Proofs.Ytlcodfjlbhjkbaa.spanThroughContains
namespace Go.Proofs.Ytlcodfjlbhjkbaa
theorem spanThroughContains_holds : Rows.SpanThroughContainsSaid := spanThroughContains.proved
end Go.Proofs.Ytlcodfjlbhjkbaa
end

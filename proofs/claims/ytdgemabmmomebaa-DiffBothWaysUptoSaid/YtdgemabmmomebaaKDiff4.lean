/- Parts of the proof of Diff: nothing is claimed here by itself. -/
import Derived.Test.YtdgemabmmomebaaKDiff3
import Derived.StillTailTactics
set_option linter.unusedVariables false
set_option linter.unusedSimpArgs false
section
namespace Go.Proofs.Ytdgemabmmomebaa.PDelta
open Go.RowKit Go.Proofs.YtdgemabmmomebaaW.PrintWords Go.Proofs.YtdgemabmmomebaaW.PrintLast Go.Proofs.YtdgemabmmomebaaW.PrintMore
theorem drop_T38 (l : List S38) (i : Nat) (h : i < l.length) : l.drop i = rd_T38 l (i : Int) :: l.drop (i + 1) := by
 rw [List.drop_eq_getElem_cons h]
 simp [rd_T38, List.getD_eq_getElem?_getD, List.getElem?_eq_getElem h]
theorem neq_cond (x y : S38) : ((!(x.f0.toList == y.f0.toList) || (!(x.f1.toList == y.f1.toList))) = true) ↔ x ≠ y := by
 rw [Bool.or_eq_true, Bool.not_eq_true', Bool.not_eq_true', beq_eq_false_iff_ne, beq_eq_false_iff_ne]
 constructor
 ·rintro h rfl
  rcases h with h | h <;> exact h rfl
 ·intro h
  by_cases h0 : x.f0.toList = y.f0.toList
  ·exact .inr (fun h1 => h (s38_ext h0 h1))
  ·exact .inl h0
theorem asame_l0 (a b : List S38) (hs : a.length ≤ 1099511627776) (hl : a.length = b.length) (d : Nat) : ∀ i : Nat, i + d = a.length → ∃ r, Ev (fun k => attr_Same.l0 k a b (a.length : Int) (i : Int)) r ∧ (r = true ↔ a.drop i = b.drop i) := by
 induction d with
 | zero =>
  intro i hi
  refine ⟨true, Ev.step (f := fun _ => some true) (fun k => ?_) (Ev.now true), ⟨fun _ => by rw [List.drop_eq_nil_of_le (by omega), List.drop_eq_nil_of_le (by omega)], fun _ => rfl⟩⟩
  simp only [attr_Same.l0]
  rw [if_neg (by omega)]
 | succ d ih =>
  intro i hi
  obtain ⟨r, hr, hri⟩ := ih (i + 1) (by omega)
  have e : ∀ k, attr_Same.l0 (k + 1) a b (a.length : Int) (i : Int) = if (!(((rd_T38 a (i : Int)).f0).toList == ((rd_T38 b (i : Int)).f0).toList) || (!(((rd_T38 a (i : Int)).f1).toList == ((rd_T38 b (i : Int)).f1).toList))) = true then some false else attr_Same.l0 k a b (a.length : Int) ((i + 1 : Nat) : Int) := fun k => by
   simp only [attr_Same.l0]
   rw [if_pos (by omega), if_pos (by omega), if_pos (by omega), if_pos (by omega), wrap_up (by omega) (by omega)]
   rfl
  rw [drop_T38 a i (by omega), drop_T38 b i (by omega)]
  by_cases hx : rd_T38 a (i : Int) = rd_T38 b (i : Int)
  ·refine ⟨r, Ev.step (fun k => by rw [e, if_neg (fun h => (neq_cond _ _).1 h hx)]) hr, hri.trans ⟨fun h => by rw [hx, h], fun h => (List.cons.inj h).2⟩⟩
  ·exact ⟨false, Ev.step (f := fun _ => some false) (fun k => by rw [e, if_pos ((neq_cond _ _).2 hx)]) (Ev.now false), ⟨(fun h => by cases h), (fun h => absurd (List.cons.inj h).1 hx)⟩⟩
theorem asame_ev (a b : List S38) (hs : a.length ≤ 1099511627776) : ∃ r, Ev (fun k => attr_Same.f k a b) r ∧ (r = true ↔ a = b) := by
 by_cases hl : a.length = b.length
 ·obtain ⟨r, hr, hri⟩ := asame_l0 a b hs hl a.length 0 (by omega)
  refine ⟨r, Ev.congr (fun k => ?_) hr, hri⟩
  unfold attr_Same.f
  rw [if_pos (by omega)]
  rfl
 ·refine ⟨false, Ev.congr (fun k => ?_) (Ev.now false), ⟨(fun h => by cases h), (fun h => absurd (congrArg List.length h) hl)⟩⟩
  unfold attr_Same.f
  rw [if_neg (by omega)]
def StepOK (s : S70) : Prop :=
 (s.f0 = 0 ∧ 1 ≤ s.f1 ∧ s.f1 ≤ 2147483647 ∧ s.f3 = [] ∧ VA true s.f2) ∨ (s.f0 = 1 ∧ s.f1 = 0 ∧ s.f2 = [] ∧ s.f3 ≠ [] ∧ POK s.f3) ∨ (s.f0 = 2 ∧ 1 ≤ s.f1 ∧ s.f1 ≤ 2147483647 ∧ s.f3 = [] ∧ s.f2 = [])
def SSm (s : S70) : Prop := Small s.f2 ∧ FSmall s.f3
theorem va_nil (ch : Bool) : VA ch [] := ⟨(fun x hx => by cases hx), List.Pairwise.nil⟩
theorem len_pos {α : Type} {l : List α} : (l.length : Int) > 0 ↔ l ≠ [] := by
 cases l with
 | nil => simp
 | cons a l => simp
theorem step_ev (s : S70) (hs : SSm s) : ∃ r : Int, Ev (fun k => delta_step.f k s.f0 s.f1 s.f2 s.f3) r ∧ (r = 0 ↔ StepOK s) := by
 obtain ⟨c, hc, hci⟩ := chkc_ev s.f2 hs.1
 obtain ⟨p, hp, hpi⟩ := part_ev s.f3 hs.2
 have j1 : ∀ b : Bool, ∃ r : Int, Ev (fun k => delta_step.j1 k b s.f0 s.f1 s.f2 s.f3) r ∧ (r = 0 ↔ b = false ∧ 1 ≤ s.f1 ∧ s.f1 ≤ 2147483647 ∧ VA true s.f2) := by
  intro b
  cases b with
  | true => exact ⟨4, Ev.step (f := fun _ => some 4) (fun k => by simp only [delta_step.j1]; rw [if_pos trivial]) (Ev.now 4), by simp⟩
  | false =>
   by_cases h1 : s.f1 < 1
   ·exact ⟨2, Ev.step (f := fun _ => some 2) (fun k => by simp only [delta_step.j1]; rw [if_neg (by decide), if_pos h1]) (Ev.now 2), ⟨fun h => by omega, fun h => by omega⟩⟩
   by_cases h2 : s.f1 > 2147483647
   ·exact ⟨2, Ev.step (f := fun _ => some 2) (fun k => by simp only [delta_step.j1]; rw [if_neg (by decide), if_neg h1, if_pos h2]) (Ev.now 2), ⟨fun h => by omega, fun h => by omega⟩⟩
   exact ⟨c, Ev.step (fun k => by simp only [delta_step.j1]; rw [if_neg (by decide), if_neg h1, if_neg h2]) (Ev.bind hc (Ev.now c)), hci.trans ⟨fun h => ⟨rfl, by omega, by omega, h⟩, fun h => h.2.2.2⟩⟩
 have j2 : ∀ b : Bool, ∃ r : Int, Ev (fun k => delta_step.j2 k b s.f0 s.f1 s.f2 s.f3) r ∧ (r = 0 ↔ b = false ∧ s.f3 ≠ [] ∧ POK s.f3) := by
  intro b
  cases b with
  | true => exact ⟨4, Ev.step (f := fun _ => some 4) (fun k => by simp only [delta_step.j2]; rw [if_pos trivial]) (Ev.now 4), by simp⟩
  | false =>
   by_cases h1 : s.f3 = []
   ·exact ⟨11, Ev.step (f := fun _ => some 11) (fun k => by simp only [delta_step.j2]; rw [if_neg (by decide), if_pos (by rw [h1]; rfl)]) (Ev.now 11), ⟨fun h => by omega, fun h => absurd h1 h.2.1⟩⟩
   ·exact ⟨p, Ev.step (fun k => by simp only [delta_step.j2]; rw [if_neg (by decide), if_neg (by have := len_pos.2 h1; omega)]) (Ev.bind hp (Ev.now p)), hpi.trans ⟨fun h => ⟨rfl, h1, h⟩, fun h => h.2.2⟩⟩
 have kc : ∀ (f : Nat → Option Int), (∀ k, f (k + 1) = delta_step.j0 (k + 1) s.f0 true s.f0 s.f1 s.f2 s.f3) → (s.f0 = 0 ∨ s.f0 = 2) → ∃ r : Int, Ev f r ∧ (r = 0 ↔ StepOK s) := by
  intro f hf hk
  by_cases h3 : s.f3 = []
  ·by_cases hcut : s.f0 = 2
   ·obtain ⟨r, hr, hri⟩ := j1 (decide ((s.f2.length : Int) > 0))
    refine ⟨r, Ev.step (fun k => by rw [hf]; simp only [delta_step.j0]; rw [if_pos trivial, if_neg (by rw [h3]; decide), if_pos hcut]) hr, hri.trans ⟨fun h => ?_, fun h => ?_⟩⟩
    ·have h2 : s.f2 = [] := Classical.byContradiction (fun hn => absurd h.1 (by rw [decide_eq_true (len_pos.2 hn)]; decide))
     exact .inr (.inr ⟨hcut, h.2.1, h.2.2.1, h3, h2⟩)
    ·rcases h with h | h | h
     ·omega
     ·omega
     ·exact ⟨by rw [h.2.2.2.2]; rfl, h.2.1, h.2.2.1, by rw [h.2.2.2.2]; exact va_nil _⟩
   ·obtain ⟨r, hr, hri⟩ := j1 false
    refine ⟨r, Ev.step (fun k => by rw [hf]; simp only [delta_step.j0]; rw [if_pos trivial, if_neg (by rw [h3]; decide), if_neg hcut]) hr, hri.trans ⟨fun h => .inl ⟨by omega, h.2.1, h.2.2.1, h3, h.2.2.2⟩, fun h => ?_⟩⟩
    rcases h with h | h | h
    ·exact ⟨rfl, h.2.1, h.2.2.1, h.2.2.2.2⟩
    ·omega
    ·omega
  ·obtain ⟨r, hr, hri⟩ := j1 true
   refine ⟨r, Ev.step (fun k => by rw [hf]; simp only [delta_step.j0]; rw [if_pos trivial, if_pos (len_pos.2 h3)]) hr, hri.trans ⟨(fun h => by cases h.1), fun h => ?_⟩⟩
   rcases h with h | h | h
   ·exact absurd h.2.2.2.1 h3
   ·omega
   ·exact absurd h.2.2.2.1 h3
 by_cases h0 : s.f0 = 0
 ·exact kc _ (fun k => by unfold delta_step.f; rw [if_pos h0, h0]; rfl) (.inl h0)
 by_cases h2 : s.f0 = 2
 ·exact kc _ (fun k => by unfold delta_step.f; rw [if_neg h0, h2]; rfl) (.inr h2)
 have e : ∀ k, delta_step.f (k + 1) s.f0 s.f1 s.f2 s.f3 = if s.f0 = 1 then (if s.f1 = 0 then delta_step.j2 k (decide ((s.f2.length : Int) > 0)) s.f0 s.f1 s.f2 s.f3 else delta_step.j2 k true s.f0 s.f1 s.f2 s.f3) else some 8 := fun k => by
  unfold delta_step.f
  rw [if_neg h0, show (s.f0 == 2) = false from beq_eq_false_iff_ne.mpr h2]
  simp only [delta_step.j0]
  rw [if_neg (by decide)]
 by_cases h1 : s.f0 = 1
 ·by_cases hn : s.f1 = 0
  ·obtain ⟨r, hr, hri⟩ := j2 (decide ((s.f2.length : Int) > 0))
   refine ⟨r, Ev.step (fun k => by rw [e, if_pos h1, if_pos hn]) hr, hri.trans ⟨fun h => ?_, fun h => ?_⟩⟩
   ·have h2 : s.f2 = [] := Classical.byContradiction (fun hn => absurd h.1 (by rw [decide_eq_true (len_pos.2 hn)]; decide))
    exact .inr (.inl ⟨h1, hn, h2, h.2.1, h.2.2⟩)
   ·rcases h with h | h | h
    ·omega
    ·exact ⟨by rw [h.2.2.1]; rfl, h.2.2.2.1, h.2.2.2.2⟩
    ·omega
  ·obtain ⟨r, hr, hri⟩ := j2 true
   refine ⟨r, Ev.step (fun k => by rw [e, if_pos h1, if_neg hn]) hr, hri.trans ⟨(fun h => by cases h.1), fun h => ?_⟩⟩
   rcases h with h | h | h <;> omega
 ·refine ⟨8, Ev.step (f := fun _ => some 8) (fun k => by rw [e, if_neg h1]) (Ev.now 8), ⟨fun h => by omega, fun h => ?_⟩⟩
  rcases h with h | h | h <;> omega
def Adj (p s : S70) : Prop := ¬ (p.f0 = s.f0 ∧ (s.f0 ≠ 0 ∨ p.f2 = s.f2)) ∧ ¬ (p.f0 = 2 ∧ s.f0 = 1)
def ordOK : Option S70 → List S70 → Prop
 | _, [] => True
 | p, s :: r => (∀ q, p = some q → Adj q s) ∧ ordOK (some s) r
def oldS (s : S70) : Int := if s.f0 = 1 then 0 else s.f1
def newS (s : S70) : Int := if s.f0 = 2 then 0 else if s.f0 = 1 then (s.f3.length : Int) else s.f1
def old : List S70 → Int
 | [] => 0
 | s :: r => oldS s + old r
def new : List S70 → Int
 | [] => 0
 | s :: r => newS s + new r
structure DOK (d : List S70) : Prop where
 ok : ∀ s ∈ d, StepOK s
 ord : ordOK none d
 old : old d ≤ 2147483647
 new : new d ≤ 2147483647
def DSm (d : List S70) : Prop := d.length ≤ 1073741824 ∧ ∀ s ∈ d, SSm s
theorem rd70_mem {l : List S70} {i : Nat} (h : i < l.length) : rd_T70 l (i : Int) ∈ l := by
 simp only [rd_T70, Int.toNat_natCast, List.getD_eq_getElem?_getD, List.getElem?_eq_getElem h, Option.getD_some]
 exact List.getElem_mem h
theorem oldS_nn {s : S70} (h : StepOK s) : 0 ≤ oldS s ∧ oldS s ≤ 2147483647 := by
 unfold oldS
 rcases h with h | h | h <;> split <;> omega
theorem newS_nn {s : S70} (h : StepOK s) (hs : SSm s) : 0 ≤ newS s ∧ newS s ≤ 2147483647 := by
 have := hs.2.1
 unfold newS
 rcases h with h | h | h
 ·rw [if_neg (by omega), if_neg (by omega)]; omega
 ·rw [if_neg (by omega), if_pos h.1]; omega
 ·rw [if_pos h.1]; omega
theorem old_nn : ∀ {d : List S70}, (∀ s ∈ d, StepOK s) → 0 ≤ old d
 | [], _ => Int.le_refl _
 | s :: r, h => by
  have h1 := oldS_nn (h s List.mem_cons_self)
  have h2 := old_nn (d := r) (fun x hx => h x (List.mem_cons_of_mem _ hx))
  rw [old]
  omega
theorem new_nn : ∀ {d : List S70}, (∀ s ∈ d, StepOK s) → (∀ s ∈ d, SSm s) → 0 ≤ new d
 | [], _, _ => Int.le_refl _
 | s :: r, h, hs => by
  have h1 := newS_nn (h s List.mem_cons_self) (hs s List.mem_cons_self)
  have h2 := new_nn (d := r) (fun x hx => h x (List.mem_cons_of_mem _ hx)) (fun x hx => hs x (List.mem_cons_of_mem _ hx))
  rw [new]
  omega
theorem mn_cap {a : Int} : mn a 2147483648 = if a ≤ 2147483648 then a else 2147483648 := by unfold mn; split <;> split <;> omega
def prev (d : List S70) : Nat → Option S70
 | 0 => none
 | i + 1 => some (rd_T70 d (i : Int))
theorem adj_prev {d : List S70} {i : Nat} (h0 : 0 < i) (P : Prop) : (∀ q, prev d i = some q → Adj q (rd_T70 d (i : Int))) ↔ Adj (rd_T70 d ((i : Int) - 1)) (rd_T70 d (i : Int)) := by
 obtain ⟨j, rfl⟩ : ∃ j, i = j + 1 := ⟨i - 1, by omega⟩
 rw [show ((j + 1 : Nat) : Int) - 1 = (j : Int) by omega]
 exact ⟨fun h => h _ rfl, fun h q hq => by cases hq; exact h⟩
def RestOK (p : Option S70) (r : List S70) (b a : Int) : Prop := (∀ s ∈ r, StepOK s) ∧ ordOK p r ∧ b + old r ≤ 2147483647 ∧ a + new r ≤ 2147483647
theorem rest_cons {p : Option S70} {s : S70} {r : List S70} {b a : Int} : RestOK p (s :: r) b a ↔ StepOK s ∧ (∀ q, p = some q → Adj q s) ∧ RestOK (some s) r (b + oldS s) (a + newS s) := by
 unfold RestOK
 rw [ordOK, old, new]
 constructor
 ·rintro ⟨h1, ⟨h2, h3⟩, h4, h5⟩
  exact ⟨h1 s List.mem_cons_self, h2, fun x hx => h1 x (List.mem_cons_of_mem _ hx), h3, by omega, by omega⟩
 ·rintro ⟨h1, h2, h3, h4, h5, h6⟩
  exact ⟨fun x hx => by rcases List.mem_cons.1 hx with rfl | hx; exact h1; exact h3 x hx, ⟨h2, h4⟩, by omega, by omega⟩
theorem rest_cap {p : Option S70} {r : List S70} {b a b' a' : Int} (hs : ∀ s ∈ r, SSm s) (hb : b = b' ∨ (2147483647 < b ∧ 2147483647 < b')) (ha : a = a' ∨ (2147483647 < a ∧ 2147483647 < a')) : RestOK p r b a ↔ RestOK p r b' a' := by
 unfold RestOK
 constructor
 ·rintro ⟨h1, h2, h3, h4⟩
  have := old_nn h1
  have := new_nn h1 hs
  exact ⟨h1, h2, by omega, by omega⟩
 ·rintro ⟨h1, h2, h3, h4⟩
  have := old_nn h1
  have := new_nn h1 hs
  exact ⟨h1, h2, by omega, by omega⟩
theorem size_is (s : S70) : delta_size.f s.f0 s.f1 s.f2 s.f3 = some (if s.f0 = 1 then (s.f3.length : Int) else s.f1) := by
 unfold delta_size.f
 split <;> rfl
theorem w64 {i : Int} (h0 : -4611686018427387904 ≤ i) (h : i ≤ 4611686018427387904) : wrap64 i = i := by unfold wrap64; omega
theorem check_l0 (d : List S70) (hs : DSm d) (n : Nat) : ∀ (i : Nat) (b a : Int), i + n = d.length → 0 ≤ b → b ≤ 2147483648 → 0 ≤ a → a ≤ 2147483648 →
  ∃ r : Int, Ev (fun k => delta_Check.l0 k d b a d (d.length : Int) (i : Int)) r ∧ (r = 0 ↔ RestOK (prev d i) (d.drop i) b a) := by
 have hs1 := hs.1
 induction n with
 | zero =>
  intro i b a hi hb0 hb ha0 ha
  have e : ∀ k, delta_Check.l0 (k + 1) d b a d (d.length : Int) (i : Int) = if b > 2147483647 then some 3 else if a > 2147483647 then some 3 else some 0 := fun k => by
   simp only [delta_Check.l0]
   rw [if_neg (by omega)]
  rw [List.drop_eq_nil_of_le (by omega)]
  have hR : RestOK (prev d i) [] b a ↔ b ≤ 2147483647 ∧ a ≤ 2147483647 := ⟨fun h => by have := h.2.2; simp [old, new] at this; exact this, fun h => ⟨(fun s hs => by cases hs), trivial, by simp [old]; exact h.1, by simp [new]; exact h.2⟩⟩
  rw [hR]
  by_cases h1 : b > 2147483647
  ·exact ⟨3, Ev.step (f := fun _ => some 3) (fun k => by rw [e, if_pos h1]) (Ev.now 3), ⟨fun h => by omega, fun h => by omega⟩⟩
  by_cases h2 : a > 2147483647
  ·exact ⟨3, Ev.step (f := fun _ => some 3) (fun k => by rw [e, if_neg h1, if_pos h2]) (Ev.now 3), ⟨fun h => by omega, fun h => by omega⟩⟩
  exact ⟨0, Ev.step (f := fun _ => some 0) (fun k => by rw [e, if_neg h1, if_neg h2]) (Ev.now 0), ⟨fun h => by omega, fun h => rfl⟩⟩
 | succ n ih =>
  intro i b a hi hb0 hb ha0 ha
  have hlt : i < d.length := by omega
  have hsm := hs.2 _ (rd70_mem hlt)
  rw [drop_T70 d i hlt]
  obtain ⟨r0, hr0, hri0⟩ := step_ev _ hsm
  obtain ⟨s, hsd⟩ : ∃ s, s = rd_T70 d (i : Int) := ⟨_, rfl⟩
  rw [← hsd] at hsm hr0 hri0
  rw [rest_cons, ← hsd]
  have hrs : ∀ x ∈ d.drop (i + 1), SSm x := fun x hx => hs.2 x (List.mem_of_mem_drop hx)
  have j1 : StepOK s → ∃ r : Int, Ev (fun k => delta_Check.j1 k d b a d (d.length : Int) (i : Int) s.f0 s.f1 s.f2 s.f3) r ∧ (r = 0 ↔ RestOK (some s) (d.drop (i + 1)) (b + oldS s) (a + newS s)) := by
   intro hok
   have ho := oldS_nn hok
   have hn := newS_nn hok hsm
   have pe : prev d (i + 1) = some s := by rw [prev, hsd]
   by_cases h1 : s.f0 = 1
   ·have h2 : ¬ s.f0 = 2 := by omega
    have e1 : oldS s = 0 := if_pos h1
    have e2 : newS s = (s.f3.length : Int) := by unfold newS; rw [if_neg h2, if_pos h1]
    obtain ⟨r, hr, hri⟩ := ih (i + 1) b (mn (a + (s.f3.length : Int)) 2147483648) (by omega) hb0 hb (by rw [mn_cap]; split <;> omega) (by rw [mn_cap]; split <;> omega)
    refine ⟨r, Ev.step (fun k => by
     simp only [delta_Check.j1]
     rw [if_pos h1, if_neg h2, size_is, Option.bind_some, if_pos h1, wrap_up (by omega) (by omega), w64 (by omega) (by omega)]
     rfl) hr, hri.trans ?_⟩
    rw [pe, e1, e2]
    exact rest_cap hrs (by omega) (by rw [mn_cap]; split <;> omega)
   by_cases h2 : s.f0 = 2
   ·have e1 : oldS s = s.f1 := if_neg h1
    have e2 : newS s = 0 := if_pos h2
    obtain ⟨r, hr, hri⟩ := ih (i + 1) (mn (b + s.f1) 2147483648) a (by omega) (by rw [mn_cap]; split <;> omega) (by rw [mn_cap]; split <;> omega) ha0 ha
    refine ⟨r, Ev.step (fun k => by
     simp only [delta_Check.j1]
     rw [if_neg h1, if_pos h2, wrap_up (by omega) (by omega), w64 (by omega) (by omega)]
     rfl) hr, hri.trans ?_⟩
    rw [pe, e1, e2]
    exact rest_cap hrs (by rw [mn_cap]; split <;> omega) (by omega)
   ·have e1 : oldS s = s.f1 := if_neg h1
    have e2 : newS s = s.f1 := by unfold newS; rw [if_neg h2, if_neg h1]
    obtain ⟨r, hr, hri⟩ := ih (i + 1) (mn (b + s.f1) 2147483648) (mn (a + s.f1) 2147483648) (by omega) (by rw [mn_cap]; split <;> omega) (by rw [mn_cap]; split <;> omega) (by rw [mn_cap]; split <;> omega) (by rw [mn_cap]; split <;> omega)
    refine ⟨r, Ev.step (fun k => by
     simp only [delta_Check.j1]
     rw [if_neg h1, if_neg h2, size_is, Option.bind_some, if_neg h1, wrap_up (by omega) (by omega), w64 (i := b + s.f1) (by omega) (by omega), w64 (by omega) (by omega)]
     rfl) hr, hri.trans ?_⟩
    rw [pe, e1, e2]
    exact rest_cap hrs (by rw [mn_cap]; split <;> omega) (by rw [mn_cap]; split <;> omega)
  have e0 : ∀ k, delta_Check.l0 (k + 1) d b a d (d.length : Int) (i : Int) = (delta_step.f k s.f0 s.f1 s.f2 s.f3).bind fun t => if t = 0 then (if (i : Int) > 0 then
    (if (rd_T70 d ((i : Int) - 1)).f0 = s.f0 then (if s.f0 = 0 then (attr_Same.f k (rd_T70 d ((i : Int) - 1)).f2 s.f2).bind fun t => (if t = true then some 5 else if (rd_T70 d ((i : Int) - 1)).f0 = 2 then (if s.f0 = 1 then some 5 else delta_Check.j1 k d b a d (d.length : Int) (i : Int) s.f0 s.f1 s.f2 s.f3) else delta_Check.j1 k d b a d (d.length : Int) (i : Int) s.f0 s.f1 s.f2 s.f3) else some 5)
     else (if (rd_T70 d ((i : Int) - 1)).f0 = 2 then (if s.f0 = 1 then some 5 else delta_Check.j1 k d b a d (d.length : Int) (i : Int) s.f0 s.f1 s.f2 s.f3) else delta_Check.j1 k d b a d (d.length : Int) (i : Int) s.f0 s.f1 s.f2 s.f3))
    else delta_Check.j1 k d b a d (d.length : Int) (i : Int) s.f0 s.f1 s.f2 s.f3) else some t := fun k => by
   simp only [delta_Check.l0]
   rw [if_pos (by omega), if_pos (by omega), if_pos (by omega), ← hsd]
   by_cases h0 : (i : Int) > 0
   ·rw [wrap_dn (by omega) (by omega), if_pos (show (0 : Int) ≤ (i : Int) - 1 by omega), if_pos (show (i : Int) - 1 < (d.length : Int) by omega)]
   ·simp only [if_neg h0]
  have bad : ∀ (c : Int), c ≠ 0 → Ev (fun k => delta_Check.l0 k d b a d (d.length : Int) (i : Int)) c → ¬ (StepOK s ∧ (∀ q, prev d i = some q → Adj q s) ∧ RestOK (some s) (d.drop (i + 1)) (b + oldS s) (a + newS s)) →
    ∃ r : Int, Ev (fun k => delta_Check.l0 k d b a d (d.length : Int) (i : Int)) r ∧ (r = 0 ↔ (StepOK s ∧ (∀ q, prev d i = some q → Adj q s) ∧ RestOK (some s) (d.drop (i + 1)) (b + oldS s) (a + newS s))) := fun c hc he hn => ⟨c, he, ⟨fun h => absurd h hc, fun h => absurd h hn⟩⟩
  by_cases hz : r0 = 0
  rotate_left
  ·exact bad r0 hz (Ev.step e0 (Ev.bind hr0 (Ev.congr (fun k => by rw [if_neg hz]) (Ev.now r0)))) (fun h => hz (hri0.2 h.1))
  have hok := hri0.1 hz
  subst hz
  obtain ⟨r, hr, hri⟩ := j1 hok
  by_cases hi0 : i = 0
  ·subst hi0
   exact ⟨r, Ev.step e0 (Ev.bind hr0 (Ev.congr (fun k => by rw [if_pos rfl, if_neg (by omega)]) hr)), hri.trans ⟨fun h => ⟨hok, (fun q hq => by cases hq), h⟩, fun h => h.2.2⟩⟩
  have hap := adj_prev (d := d) (i := i) (by omega) True
  rw [← hsd] at hap
  rw [hap] at bad ⊢
  obtain ⟨p, hp⟩ : ∃ p, p = rd_T70 d ((i : Int) - 1) := ⟨_, rfl⟩
  rw [← hp] at hap bad e0 ⊢
  have hpsm : SSm p := by
   have := hs.2 _ (rd70_mem (l := d) (i := i - 1) (by omega))
   rw [show ((i - 1 : Nat) : Int) = (i : Int) - 1 by omega, ← hp] at this
   exact this
  have good : Adj p s → (∀ k, delta_Check.l0 (k + 1) d b a d (d.length : Int) (i : Int) = (delta_step.f k s.f0 s.f1 s.f2 s.f3).bind fun t => if t = 0 then delta_Check.j1 k d b a d (d.length : Int) (i : Int) s.f0 s.f1 s.f2 s.f3 else some t) → ∃ r : Int, Ev (fun k => delta_Check.l0 k d b a d (d.length : Int) (i : Int)) r ∧ (r = 0 ↔ (StepOK s ∧ Adj p s ∧ RestOK (some s) (d.drop (i + 1)) (b + oldS s) (a + newS s))) :=
   fun h1 h2 => ⟨r, Ev.step h2 (Ev.bind hr0 (Ev.congr (fun k => by rw [if_pos rfl]) hr)), hri.trans ⟨fun h => ⟨hok, h1, h⟩, fun h => h.2.2⟩⟩
  have hpos : (i : Int) > 0 := by omega
  by_cases hk : p.f0 = s.f0
  ·by_cases h0 : s.f0 = 0
   ·obtain ⟨c, hc, hci⟩ := asame_ev p.f2 s.f2 hpsm.1.1
    cases c with
    | true =>
     refine bad 5 (by decide) (Ev.step e0 (Ev.bind hr0 (Ev.congr (fun k => by rw [if_pos rfl, if_pos hpos, if_pos hk, if_pos h0]) (Ev.bind hc (Ev.congr (fun k => by rw [if_pos rfl]) (Ev.now 5)))))) (fun h => h.2.1.1 ⟨hk, .inr (hci.1 rfl)⟩)
    | false =>
     have hne : p.f2 ≠ s.f2 := fun h => by have := hci.2 h; cases this
     refine ⟨r, Ev.step e0 (Ev.bind hr0 (Ev.congr (fun k => by rw [if_pos rfl, if_pos hpos, if_pos hk, if_pos h0]) (Ev.bind hc (Ev.congr (fun k => by rw [if_neg (by decide), if_neg (by omega)]) hr)))), hri.trans ⟨fun h => ⟨hok, ⟨fun h => ?_, fun h => by omega⟩, h⟩, fun h => h.2.2⟩⟩
     rcases h.2 with h | h
     ·exact h h0
     ·exact hne h
   ·refine bad 5 (by decide) (Ev.step e0 (Ev.bind hr0 (Ev.congr (fun k => by rw [if_pos rfl, if_pos hpos, if_pos hk, if_neg h0]) (Ev.now 5)))) (fun h => h.2.1.1 ⟨hk, .inl h0⟩)
  ·by_cases hc2 : p.f0 = 2 ∧ s.f0 = 1
   ·refine bad 5 (by decide) (Ev.step e0 (Ev.bind hr0 (Ev.congr (fun k => by rw [if_pos rfl, if_pos hpos, if_neg hk, if_pos hc2.1, if_pos hc2.2]) (Ev.now 5)))) (fun h => h.2.1.2 hc2)
   ·refine good ⟨fun h => hk h.1, hc2⟩ (fun k => ?_)
    rw [e0]
    congr 1
    funext t
    by_cases ht : t = 0
    ·rw [if_pos ht, if_pos ht, if_pos hpos, if_neg hk]
     by_cases h2 : p.f0 = 2
     ·rw [if_pos h2, if_neg (fun h => hc2 ⟨h2, h⟩)]
     ·rw [if_neg h2]
    ·rw [if_neg ht, if_neg ht]
theorem dok_rest (d : List S70) : RestOK none d 0 0 ↔ DOK d := ⟨fun h => ⟨h.1, h.2.1, by have := h.2.2.1; omega, by have := h.2.2.2; omega⟩, fun h => ⟨h.ok, h.ord, by have := h.old; omega, by have := h.new; omega⟩⟩
theorem check_ev (d : List S70) (hs : DSm d) : ∃ r : Int, Ev (fun k => delta_Check.f k d) r ∧ (r = 0 ↔ DOK d) := by
 obtain ⟨r, hr, hri⟩ := check_l0 d hs d.length 0 0 0 (by omega) (by omega) (by omega) (by omega) (by omega)
 exact ⟨r, hr, hri.trans (dok_rest d)⟩
theorem lengths_l0 (d : List S70) (hs : DSm d) (hok : ∀ s ∈ d, StepOK s) (n : Nat) : ∀ (i : Nat) (b a : Int), i + n = d.length → 0 ≤ b → 0 ≤ a → b + old (d.drop i) ≤ 2147483647 → a + new (d.drop i) ≤ 2147483647 →
  Ev (fun k => delta_lengths.l0 k b a d (d.length : Int) (i : Int)) (b + old (d.drop i), a + new (d.drop i)) := by
 have hs1 := hs.1
 induction n with
 | zero =>
  intro i b a hi hb0 ha0 hb ha
  rw [List.drop_eq_nil_of_le (by omega), old, new, Int.add_zero, Int.add_zero]
  refine Ev.step (f := fun _ => some (b, a)) (fun k => ?_) (Ev.now _)
  simp only [delta_lengths.l0]
  rw [if_neg (by omega)]
 | succ n ih =>
  intro i b a hi hb0 ha0 hb ha
  have hlt : i < d.length := by omega
  have hsm := hs.2 _ (rd70_mem hlt)
  have hk := hok _ (rd70_mem hlt)
  rw [drop_T70 d i hlt, old, new] at *
  obtain ⟨s, hsd⟩ : ∃ s, s = rd_T70 d (i : Int) := ⟨_, rfl⟩
  rw [← hsd] at hsm hk hb ha ⊢
  have h1 := oldS_nn hk
  have h2 := newS_nn hk hsm
  have h3 := old_nn (d := d.drop (i + 1)) (fun x hx => hok x (List.mem_of_mem_drop hx))
  have h4 := new_nn (d := d.drop (i + 1)) (fun x hx => hok x (List.mem_of_mem_drop hx)) (fun x hx => hs.2 x (List.mem_of_mem_drop hx))
  have := ih (i + 1) (b + oldS s) (a + newS s) (by omega) (by omega) (by omega) (by omega) (by omega)
  rw [Int.add_assoc, Int.add_assoc] at this
  refine Ev.step (fun k => ?_) this
  simp only [delta_lengths.l0]
  rw [if_pos (by omega), if_pos (by omega), if_pos (by omega), ← hsd, size_is]
  simp only [Option.bind_some]
  have hl : s.f0 = 1 → oldS s = 0 := fun h => if_pos h
  have hl2 : s.f0 ≠ 1 → oldS s = s.f1 := fun h => if_neg h
  have hn2 : s.f0 = 2 → newS s = 0 := fun h => if_pos h
  have hn1 : s.f0 ≠ 2 → s.f0 = 1 → newS s = (s.f3.length : Int) := fun h h' => by unfold newS; rw [if_neg h, if_pos h']
  have hn0 : s.f0 ≠ 2 → s.f0 ≠ 1 → newS s = s.f1 := fun h h' => by unfold newS; rw [if_neg h, if_neg h']
  have wi : wrap64 ((i : Int) + 1) = ((i + 1 : Nat) : Int) := by rw [wrap_up (by omega) (by omega)]; rfl
  rw [wi]
  by_cases g1 : s.f0 = 1
  ·have g2 : ¬ s.f0 = 2 := by omega
   rw [if_pos g1, if_neg g2, if_pos g1, ← hn1 g2 g1, w64 (by omega) (by omega), hl g1, Int.add_zero]
  ·by_cases g2 : s.f0 = 2
   ·rw [if_neg g1, if_pos g2, ← hl2 g1, w64 (by omega) (by omega), hn2 g2, Int.add_zero]
   ·rw [if_neg g1, if_neg g2, if_neg g1, w64 (i := b + s.f1) (by rw [← hl2 g1]; omega) (by rw [← hl2 g1]; omega), w64 (i := a + s.f1) (by rw [← hl2 g1]; omega) (by rw [← hn0 g2 g1]; omega), ← hn0 g2 g1, hl2 g1, hn0 g2 g1]
theorem lengths_ev (d : List S70) (hs : DSm d) (h : DOK d) : Ev (fun k => delta_lengths.f k d) (old d, new d) := by
 have := lengths_l0 d hs h.ok d.length 0 0 0 (by omega) (by omega) (by omega) (by have := h.old; simpa using this) (by have := h.new; simpa using this)
 exact Ev.congr (f := fun k => delta_lengths.l0 k 0 0 d (d.length : Int) 0) (fun k => rfl) (by simpa using this)
inductive Un where
 | keep (t : List S38)
 | cut
 | add (x : S84)
def us (s : S70) : List Un := if s.f0 = 0 then List.replicate s.f1.toNat (.keep s.f2) else if s.f0 = 1 then s.f3.map .add else List.replicate s.f1.toNat .cut
def units (d : List S70) : List Un := d.flatMap us
def app (t : List S38) (x : S84) : S84 := ⟨x.f0, x.f1, mrg rawE x.f2 t⟩
def run : List S84 → List Un → List S84 × List S84
 | f, [] => ([], f)
 | f, .add x :: u => (x :: (run f u).1, (run f u).2)
 | [], .keep _ :: u => run [] u
 | x :: f, .keep t :: u => (app t x :: (run f u).1, (run f u).2)
 | [], .cut :: u => run [] u
 | _ :: f, .cut :: u => run f u
theorem units_nil : units [] = [] := rfl
theorem units_cons (s : S70) (d : List S70) : units (s :: d) = us s ++ units d := rfl
theorem units_app (a b : List S70) : units (a ++ b) = units a ++ units b := by simp [units]
theorem run_app (a b : List Un) : ∀ f : List S84, run f (a ++ b) = ((run f a).1 ++ (run (run f a).2 b).1, (run (run f a).2 b).2) := by
 induction a with
 | nil => intro f; rfl
 | cons x a ih =>
  intro f
  cases x with
  | add x => simp only [List.cons_append, run, ih]
  | keep t => cases f <;> simp only [List.cons_append, run, ih]
  | cut => cases f <;> simp only [List.cons_append, run, ih]
theorem run_keeps (t : List S38) : ∀ (n : Nat) (f : List S84), n ≤ f.length → run f (List.replicate n (.keep t)) = ((f.take n).map (app t), f.drop n)
 | 0, f, _ => by simp [run]
 | n + 1, [], h => by simp at h
 | n + 1, x :: f, h => by rw [List.replicate_succ, run, run_keeps t n f (by simpa using h)]; simp
theorem run_cuts : ∀ (n : Nat) (f : List S84), n ≤ f.length → run f (List.replicate n .cut) = ([], f.drop n)
 | 0, f, _ => by simp [run]
 | n + 1, [], h => by simp at h
 | n + 1, x :: f, h => by rw [List.replicate_succ, run, run_cuts n f (by simpa using h)]; simp
theorem run_adds : ∀ (l f : List S84), run f (l.map .add) = (l, f)
 | [], f => rfl
 | x :: l, f => by rw [List.map_cons, run, run_adds l f]
def LB (n : Nat) (f : List S84) : Prop := f.length ≤ n ∧ ∀ x ∈ f, x.f2.length ≤ n
theorem LB.mono {n m : Nat} {f : List S84} (h : LB n f) (hm : n ≤ m) : LB m f := ⟨Nat.le_trans h.1 hm, fun x hx => Nat.le_trans (h.2 x hx) hm⟩
theorem pok_mem {f : List S84} : POK f ↔ ∀ x ∈ f, ElemOK x := by
 constructor
 ·intro h x hx
  obtain ⟨i, h0, h1, rfl⟩ := memf_rd hx
  exact h i h0 h1
 ·intro h j h0 h1
  exact h _ (rdf_mem h0 h1)
theorem va_small {ch : Bool} {l : List S38} (h : VA ch l) (hl : l.length ≤ 1099511627776) : Small l := by
 refine ⟨hl, fun x hx => ?_⟩
 obtain ⟨h1, h2⟩ := h.1 x hx
 have := h1.2.1
 refine ⟨by omega, ?_⟩
 rcases h2 with h2 | ⟨_, h2⟩
 ·have := h2.2.1; omega
 ·omega
theorem fsmall {n : Nat} {f : List S84} (h : POK f) (hl : LB n f) (hn : n ≤ 1073741824) : FSmall f := by
 refine ⟨Nat.le_trans hl.1 hn, fun x hx => ?_⟩
 have h1 := hl.2 x hx
 exact ⟨va_small (pok_mem.1 h x hx).2 (by omega), by omega⟩
def DB (n : Nat) (d : List S70) : Prop := d.length ≤ n ∧ ∀ s ∈ d, s.f2.length ≤ n ∧ LB n s.f3
theorem stepok_small {n : Nat} {s : S70} (h : StepOK s) (h1 : s.f2.length ≤ n) (h2 : LB n s.f3) (hn : n ≤ 1073741824) : SSm s := by
 rcases h with h | h | h
 ·exact ⟨va_small h.2.2.2.2 (by omega), by rw [h.2.2.2.1]; exact ⟨Nat.zero_le _, fun x hx => by cases hx⟩⟩
 ·exact ⟨by rw [h.2.2.1]; exact ⟨Nat.zero_le _, fun x hx => by cases hx⟩, fsmall h.2.2.2.2 h2 hn⟩
 ·exact ⟨by rw [h.2.2.2.2]; exact ⟨Nat.zero_le _, fun x hx => by cases hx⟩, by rw [h.2.2.2.1]; exact ⟨Nat.zero_le _, fun x hx => by cases hx⟩⟩
theorem dsm {n : Nat} {d : List S70} (h : ∀ s ∈ d, StepOK s) (hd : DB n d) (hn : n ≤ 1073741824) : DSm d :=
 ⟨Nat.le_trans hd.1 hn, fun s hs => stepok_small (h s hs) (hd.2 s hs).1 (hd.2 s hs).2 hn⟩
theorem changed_l0 (t : List S38) (l : List S84) (ht : t.length ≤ 1073741824) (hl : l.length ≤ 1073741824) (hx : ∀ x ∈ l, x.f2.length ≤ 1073741824) (n : Nat) : ∀ i : Nat, i + n = l.length →
  Ev (fun k => delta_changed.l0 k t ((l.take i).map (app t) ++ List.replicate (l.length - i) z84) l (l.length : Int) (i : Int)) (l.map (app t)) := by
 induction n with
 | zero =>
  intro i hi
  refine Ev.step (f := fun _ => some (l.map (app t))) (fun k => ?_) (Ev.now _)
  simp only [delta_changed.l0]
  rw [if_neg (by omega), show i = l.length by omega]
  simp
 | succ n ih =>
  intro i hi
  have hlt : i < l.length := by omega
  refine Ev.step (fun k => ?_) (ih (i + 1) (by omega))
  have hlen : ((l.take i).map (app t) ++ List.replicate (l.length - i) z84).length = l.length := by simp; omega
  have hxe : rd_T84 l (i : Int) = l[i]'hlt := by simp [rd_T84, List.getD_eq_getElem?_getD, List.getElem?_eq_getElem hlt]
  have h2 := hx _ (rdf_mem (l := l) (i := (i : Int)) (by omega) (by omega))
  simp only [delta_changed.l0]
  rw [if_pos (by omega), if_pos (by omega), if_pos (by omega), raw_f h2 ht, Option.bind_some, if_pos (by rw [hlen]; omega), wrap_up (by omega) (by omega), show ((i : Int) + 1) = ((i + 1 : Nat) : Int) from by omega]
  have hset : ((l.take i).map (app t) ++ List.replicate (l.length - i) z84).set (i : Int).toNat (⟨(rd_T84 l (i : Int)).f0, (rd_T84 l (i : Int)).f1, mrg rawE (rd_T84 l (i : Int)).f2 t⟩ : S84) = (l.take (i + 1)).map (app t) ++ List.replicate (l.length - (i + 1)) z84 := by
   rw [Int.toNat_natCast]
   have hn : l.length - i = (l.length - (i + 1)) + 1 := by omega
   rw [hn, List.replicate_succ, List.set_append_right _ _ (by simp; omega)]
   have e1 : i - ((l.take i).map (app t)).length = 0 := by simp; omega
   have ht : l.take (i + 1) = l.take i ++ [l[i]'hlt] := by
    rw [List.take_add_one, List.getElem?_eq_getElem hlt]
    rfl
   rw [e1, List.set_cons_zero, hxe, ht, List.map_append, List.append_assoc]
   rfl
  rw [hset]
theorem changed_ev (t : List S38) (l : List S84) (ht : t.length ≤ 1073741824) (hl : l.length ≤ 1073741824) (hx : ∀ x ∈ l, x.f2.length ≤ 1073741824) : Ev (fun k => delta_changed.f k l t) (l.map (app t)) := by
 refine Ev.congr (fun k => ?_) (changed_l0 t l ht hl hx l.length 0 (by omega))
 unfold delta_changed.f
 rw [if_pos (by omega), if_pos (by omega)]
 simp
theorem us_keep {s : S70} (h : s.f0 = 0) : us s = List.replicate s.f1.toNat (.keep s.f2) := if_pos h
theorem us_add {s : S70} (h : s.f0 = 1) : us s = s.f3.map .add := by unfold us; rw [if_neg (by omega), if_pos h]
theorem us_cut {s : S70} (h : s.f0 = 2) : us s = List.replicate s.f1.toNat .cut := by unfold us; rw [if_neg (by omega), if_neg (by omega)]
theorem raw_l0 (d : List S70) (hok : ∀ s ∈ d, StepOK s) (hd : DB 1073741824 d) (n : Nat) : ∀ (i : Nat) (f acc : List S84), i + n = d.length → LB 1073741824 f → old (d.drop i) ≤ (f.length : Int) → (acc.length : Int) + new (d.drop i) ≤ 1073741824 →
  Ev (fun k => delta_Raw.l0 k f acc d (d.length : Int) (i : Int)) (acc ++ (run f (units (d.drop i))).1) := by
 have hs := dsm hok hd (Nat.le_refl _)
 have hs1 := hs.1
 induction n with
 | zero =>
  intro i f acc hi hf ho ha
  rw [List.drop_eq_nil_of_le (by omega), units_nil, run, List.append_nil]
  refine Ev.step (f := fun _ => some acc) (fun k => ?_) (Ev.now _)
  simp only [delta_Raw.l0]
  rw [if_neg (by omega)]
 | succ n ih =>
  intro i f acc hi hf ho ha
  have hlt : i < d.length := by omega
  have hsm := hs.2 _ (rd70_mem hlt)
  have hk := hok _ (rd70_mem hlt)
  have hdb := hd.2 _ (rd70_mem hlt)
  rw [drop_T70 d i hlt, old] at ho
  rw [drop_T70 d i hlt, new] at ha
  rw [drop_T70 d i hlt, units_cons, run_app]
  obtain ⟨s, hsd⟩ : ∃ s, s = rd_T70 d (i : Int) := ⟨_, rfl⟩
  rw [← hsd] at hsm hk ho ha hdb ⊢
  have h3 := old_nn (d := d.drop (i + 1)) (fun x hx => hok x (List.mem_of_mem_drop hx))
  have h4 := new_nn (d := d.drop (i + 1)) (fun x hx => hok x (List.mem_of_mem_drop hx)) (fun x hx => hs.2 x (List.mem_of_mem_drop hx))
  have hfl := hf.1
  have e : ∀ k, delta_Raw.l0 (k + 1) f acc d (d.length : Int) (i : Int) = if s.f0 = 0 then (if 0 ≤ s.f1 then (if s.f1 ≤ (f.length : Int) then ((delta_changed.f k (f.take s.f1.toNat) s.f2).bind fun t => if acc.length + t.length < 3518437208883 then delta_Raw.l0 k (f.drop s.f1.toNat) (acc ++ t) d (d.length : Int) ((i + 1 : Nat) : Int) else none) else none) else none)
    else (if s.f0 = 1 then ((flow_Copy.f k s.f3).bind fun t => if acc.length + t.length < 3518437208883 then delta_Raw.l0 k f (acc ++ t) d (d.length : Int) ((i + 1 : Nat) : Int) else none) else (if 0 ≤ s.f1 then (if s.f1 ≤ (f.length : Int) then delta_Raw.l0 k (f.drop s.f1.toNat) acc d (d.length : Int) ((i + 1 : Nat) : Int) else none) else none)) := fun k => by
   simp only [delta_Raw.l0]
   rw [if_pos (by omega), if_pos (by omega), if_pos (by omega), ← hsd, wrap_up (by omega) (by omega)]
   rfl
  rcases hk with hk | hk | hk
  ·have eo : oldS s = s.f1 := if_neg (by omega)
   have en : newS s = s.f1 := by unfold newS; rw [if_neg (by omega), if_neg (by omega)]
   rw [us_keep hk.1, run_keeps _ _ _ (by omega)]
   have hc := changed_ev s.f2 (f.take s.f1.toNat) (by have := hdb.1; omega) (by rw [List.length_take]; omega) (fun x hx => by have := hf.2 x (List.mem_of_mem_take hx); omega)
   have hl : ((f.take s.f1.toNat).map (app s.f2)).length = s.f1.toNat := by rw [List.length_map, List.length_take]; omega
   have := ih (i + 1) (f.drop s.f1.toNat) (acc ++ (f.take s.f1.toNat).map (app s.f2)) (by omega) ⟨by rw [List.length_drop]; omega, fun x hx => hf.2 x (List.mem_of_mem_drop hx)⟩ (by rw [List.length_drop]; omega) (by rw [List.length_append, hl]; omega)
   rw [List.append_assoc] at this
   exact Ev.step (fun k => by rw [e, if_pos hk.1, if_pos (by omega), if_pos (by omega)]) (Ev.bind hc (Ev.congr (fun k => by rw [if_pos (by rw [hl]; omega)]) this))
  ·have eo : oldS s = 0 := if_pos hk.1
   have en : newS s = (s.f3.length : Int) := by unfold newS; rw [if_neg (by omega), if_pos hk.1]
   rw [us_add hk.1, run_adds]
   have := ih (i + 1) f (acc ++ s.f3) (by omega) hf (by omega) (by rw [List.length_append]; omega)
   rw [List.append_assoc] at this
   exact Ev.step (fun k => by rw [e, if_neg (by omega), if_pos hk.1]) (Ev.bind (copy_ev s.f3 hsm.2) (Ev.congr (fun k => by rw [if_pos (by have := hsm.2.1; omega)]) this))
  ·have eo : oldS s = s.f1 := if_neg (by omega)
   have en : newS s = 0 := if_pos hk.1
   rw [us_cut hk.1, run_cuts _ _ (by omega)]
   have := ih (i + 1) (f.drop s.f1.toNat) acc (by omega) ⟨by rw [List.length_drop]; omega, fun x hx => hf.2 x (List.mem_of_mem_drop hx)⟩ (by rw [List.length_drop]; omega) (by omega)
   exact Ev.step (fun k => by rw [e, if_neg (by omega), if_neg (by omega), if_pos (by omega), if_pos (by omega)]) this
theorem raw_ev (d : List S70) (f : List S84) (hok : ∀ s ∈ d, StepOK s) (hd : DB 1073741824 d) (hf : LB 1073741824 f) (ho : old d ≤ (f.length : Int)) (hn : new d ≤ 1073741824) : Ev (fun k => delta_Raw.f k f d) (run f (units d)).1 := by
 have := raw_l0 d hok hd d.length 0 f [] (by omega) hf (by simpa using ho) (by simpa using hn)
 exact Ev.congr (f := fun k => delta_Raw.l0 k f [] d (d.length : Int) 0) (fun k => rfl) (by simpa using this)
theorem fits_ev (f : List S84) (d : List S70) (hf : POK f) (hl : LB 1073741824 f) (h : DOK d) (hd : DB 1073741824 d) (ho : old d = (f.length : Int)) : Ev (fun k => delta_fits.f k f d) 0 := by
 have hs := dsm h.ok hd (Nat.le_refl _)
 obtain ⟨p, hp, hpi⟩ := part_ev f (fsmall hf hl (Nat.le_refl _))
 obtain rfl := hpi.2 hf
 obtain ⟨c, hc, hci⟩ := check_ev d hs
 obtain rfl := hci.2 h
 refine Ev.congr (fun k => by unfold delta_fits.f; rfl) (Ev.bind hp (Ev.congr (fun k => by rw [if_pos rfl]) (Ev.bind hc (Ev.congr (fun k => by rw [if_pos rfl]) (Ev.bind (lengths_ev d hs h) (Ev.congr (fun k => by rw [if_pos ho]) (Ev.now 0)))))))
theorem apply_ev (f : List S84) (d : List S70) (hf : POK f) (hl : LB 1073741824 f) (h : DOK d) (hd : DB 1073741824 d) (ho : old d = (f.length : Int)) (hn : new d ≤ 1073741824) : Ev (fun k => delta_Apply.f k f d) ((run f (units d)).1, 0) :=
 Ev.congr (fun k => by unfold delta_Apply.f; rfl) (Ev.bind (fits_ev f d hf hl h hd ho) (Ev.congr (fun k => by rw [if_pos rfl]) (Ev.bind (raw_ev d f h.ok hd hl (by omega) hn) (Ev.now _))))
section
variable {w wr w1 : World} {ga : Nat} {cs : Array Value} {out out' : List S70} {adds adds' : List S84} {v u v1 u1 : Value}
end
def nold : List Un → Nat
 | [] => 0
 | .add _ :: u => nold u
 | .keep _ :: u => nold u + 1
 | .cut :: u => nold u + 1
def nnew : List Un → Nat
 | [] => 0
 | .cut :: u => nnew u
 | .keep _ :: u => nnew u + 1
 | .add _ :: u => nnew u + 1
theorem nold_app : ∀ a b : List Un, nold (a ++ b) = nold a + nold b
 | [], b => by simp [nold]
 | .add x :: a, b => by simp only [List.cons_append, nold, nold_app a b]
 | .keep t :: a, b => by simp only [List.cons_append, nold, nold_app a b]; omega
 | .cut :: a, b => by simp only [List.cons_append, nold, nold_app a b]; omega
theorem nnew_app : ∀ a b : List Un, nnew (a ++ b) = nnew a + nnew b
 | [], b => by simp [nnew]
 | .add x :: a, b => by simp only [List.cons_append, nnew, nnew_app a b]; omega
 | .keep t :: a, b => by simp only [List.cons_append, nnew, nnew_app a b]; omega
 | .cut :: a, b => by simp only [List.cons_append, nnew, nnew_app a b]
theorem nold_keeps (t : List S38) : ∀ n, nold (List.replicate n (.keep t)) = n
 | 0 => rfl
 | n + 1 => by rw [List.replicate_succ, nold, nold_keeps t n]
theorem nnew_keeps (t : List S38) : ∀ n, nnew (List.replicate n (.keep t)) = n
 | 0 => rfl
 | n + 1 => by rw [List.replicate_succ, nnew, nnew_keeps t n]
theorem nold_cuts : ∀ n, nold (List.replicate n .cut) = n
 | 0 => rfl
 | n + 1 => by rw [List.replicate_succ, nold, nold_cuts n]
theorem nnew_cuts : ∀ n, nnew (List.replicate n .cut) = 0
 | 0 => rfl
 | n + 1 => by rw [List.replicate_succ, nnew, nnew_cuts n]
theorem nold_adds : ∀ l : List S84, nold (l.map .add) = 0
 | [] => rfl
 | x :: l => by rw [List.map_cons, nold, nold_adds l]
theorem nnew_adds : ∀ l : List S84, nnew (l.map .add) = l.length
 | [] => rfl
 | x :: l => by rw [List.map_cons, nnew, nnew_adds l, List.length_cons]
theorem nold_le : ∀ u : List Un, nold u ≤ u.length
 | [] => Nat.le_refl _
 | .add x :: u => by have := nold_le u; simp only [nold, List.length_cons]; omega
 | .keep t :: u => by have := nold_le u; simp only [nold, List.length_cons]; omega
 | .cut :: u => by have := nold_le u; simp only [nold, List.length_cons]; omega
theorem nnew_le : ∀ u : List Un, nnew u ≤ u.length
 | [] => Nat.le_refl _
 | .add x :: u => by have := nnew_le u; simp only [nnew, List.length_cons]; omega
 | .keep t :: u => by have := nnew_le u; simp only [nnew, List.length_cons]; omega
 | .cut :: u => by have := nnew_le u; simp only [nnew, List.length_cons]; omega
theorem run_cuts' : ∀ (n : Nat) (f : List S84), run f (List.replicate n .cut) = ([], f.drop n)
 | 0, f => by simp [run]
 | n + 1, [] => by rw [List.replicate_succ, run, run_cuts' n []]; simp
 | n + 1, x :: f => by rw [List.replicate_succ, run, run_cuts' n f]; simp
def costU : List Un → Nat
 | [] => 0
 | .keep [] :: u => costU u
 | .keep (_ :: _) :: u => costU u + 1
 | .cut :: u => costU u + 1
 | .add _ :: u => costU u + 1
theorem costU_app : ∀ a b : List Un, costU (a ++ b) = costU a + costU b
 | [], b => by simp [costU]
 | .keep [] :: u, b => by rw [List.cons_append, costU, costU, costU_app u b]
 | .keep (_ :: _) :: u, b => by rw [List.cons_append, costU, costU, costU_app u b]; omega
 | .cut :: u, b => by rw [List.cons_append, costU, costU, costU_app u b]; omega
 | .add _ :: u, b => by rw [List.cons_append, costU, costU, costU_app u b]; omega
structure E (a b : List Un) : Prop where
 run : ∀ f, run f a = run f b
 old : nold a = nold b
 new : nnew a = nnew b
 len : a.length = b.length
 cost : costU a = costU b
theorem E.refl (a : List Un) : E a a := ⟨fun _ => rfl, rfl, rfl, rfl, rfl⟩
theorem E.symm {a b : List Un} (h : E a b) : E b a := ⟨fun f => (h.run f).symm, h.old.symm, h.new.symm, h.len.symm, h.cost.symm⟩
theorem E.trans {a b c : List Un} (h : E a b) (k : E b c) : E a c := ⟨fun f => (h.run f).trans (k.run f), h.old.trans k.old, h.new.trans k.new, h.len.trans k.len, h.cost.trans k.cost⟩
theorem E.app {a b c d : List Un} (h : E a b) (k : E c d) : E (a ++ c) (b ++ d) := ⟨fun f => by rw [run_app, run_app, h.run, k.run], by rw [nold_app, nold_app, h.old, k.old], by rw [nnew_app, nnew_app, h.new, k.new], by rw [List.length_append, List.length_append, h.len, k.len], by rw [costU_app, costU_app, h.cost, k.cost]⟩
theorem E.swap (n : Nat) (l : List S84) : E (List.replicate n .cut ++ l.map .add) (l.map .add ++ List.replicate n .cut) :=
 ⟨fun f => by rw [run_app, run_app, run_cuts', run_adds, run_adds, run_cuts']; simp, by rw [nold_app, nold_app]; omega, by rw [nnew_app, nnew_app]; omega, by rw [List.length_append, List.length_append]; omega, by rw [costU_app, costU_app]; omega⟩
theorem us_len {s : S70} (h : StepOK s) : 1 ≤ (us s).length ∧ s.f1.toNat ≤ (us s).length ∧ s.f3.length ≤ (us s).length := by
 rcases h with h | h | h
 ·rw [us_keep h.1, List.length_replicate, h.2.2.2.1]; simp; omega
 ·rw [us_add h.1, List.length_map]
  have := List.length_pos_iff.2 h.2.2.2.1
  omega
 ·rw [us_cut h.1, List.length_replicate, h.2.2.2.1]; simp; omega
theorem oldS_us {s : S70} (h : StepOK s) : oldS s = (nold (us s) : Int) := by
 rcases h with h | h | h
 ·rw [us_keep h.1, nold_keeps]; unfold oldS; rw [if_neg (by omega)]; omega
 ·rw [us_add h.1, nold_adds]; unfold oldS; rw [if_pos h.1]; rfl
 ·rw [us_cut h.1, nold_cuts]; unfold oldS; rw [if_neg (by omega)]; omega
theorem newS_us {s : S70} (h : StepOK s) : newS s = (nnew (us s) : Int) := by
 rcases h with h | h | h
 ·rw [us_keep h.1, nnew_keeps]; unfold newS; rw [if_neg (by omega), if_neg (by omega)]; omega
 ·rw [us_add h.1, nnew_adds]; unfold newS; rw [if_neg (by omega), if_pos h.1]
 ·rw [us_cut h.1, nnew_cuts]; unfold newS; rw [if_pos h.1]; rfl
theorem old_units : ∀ {d : List S70}, (∀ s ∈ d, StepOK s) → old d = (nold (units d) : Int)
 | [], _ => rfl
 | s :: d, h => by
  rw [old, units_cons, nold_app, oldS_us (h s List.mem_cons_self), old_units (fun x hx => h x (List.mem_cons_of_mem _ hx))]
  omega
theorem new_units : ∀ {d : List S70}, (∀ s ∈ d, StepOK s) → new d = (nnew (units d) : Int)
 | [], _ => rfl
 | s :: d, h => by
  rw [new, units_cons, nnew_app, newS_us (h s List.mem_cons_self), new_units (fun x hx => h x (List.mem_cons_of_mem _ hx))]
  omega
theorem units_len : ∀ {d : List S70}, (∀ s ∈ d, StepOK s) → d.length ≤ (units d).length
 | [], _ => Nat.le_refl _
 | s :: d, h => by
  have h1 := us_len (h s List.mem_cons_self)
  have h2 := units_len (d := d) (fun x hx => h x (List.mem_cons_of_mem _ hx))
  rw [units_cons, List.length_append, List.length_cons]
  omega
theorem units_mem : ∀ {d : List S70}, (∀ s ∈ d, StepOK s) → ∀ s ∈ d, (us s).length ≤ (units d).length
 | [], _, s, hs => by cases hs
 | x :: d, h, s, hs => by
  rw [units_cons, List.length_append]
  rcases List.mem_cons.1 hs with rfl | hs
  ·omega
  ·have := units_mem (d := d) (fun x hx => h x (List.mem_cons_of_mem _ hx)) s hs
   omega
theorem ord_snoc (x : S70) : ∀ (l : List S70) (p : Option S70), ordOK p (l ++ [x]) ↔ ordOK p l ∧ ∀ q, (l.getLast?.or p) = some q → Adj q x
 | [], p => by simp [ordOK]
 | [y], p => by simp [ordOK]
 | y :: z :: l, p => by
  have : (z :: l).getLast?.or (some y) = (y :: z :: l).getLast?.or p := by simp [List.getLast?_cons_cons, List.getLast?_cons]
  show ((∀ q, p = some q → Adj q y) ∧ ordOK (some y) ((z :: l) ++ [x])) ↔ ((∀ q, p = some q → Adj q y) ∧ ordOK (some y) (z :: l)) ∧ _
  rw [ord_snoc x (z :: l) (some y), this, and_assoc]
def wu (s : WD) : List Un := units s.out ++ s.add.map .add ++ List.replicate s.cut.toNat .cut
def SAt (A : Nat) (s : S70) : Prop := s.f2.length ≤ A ∧ ∀ y ∈ s.f3, y.f2.length ≤ A
structure WF (A : Nat) (s : WD) : Prop where
 ok : ∀ x ∈ s.out, StepOK x
 ord : ordOK none s.out
 last : ∀ x, s.out.getLast? = some x → x.f0 = 0
 add : POK s.add
 cut : 0 ≤ s.cut
 att : ∀ x ∈ s.out, SAt A x
 atta : ∀ y ∈ s.add, y.f2.length ≤ A
theorem WF.nil (A : Nat) : WF A ⟨[], [], 0⟩ := ⟨(fun x hx => by cases hx), trivial, (fun x hx => by cases hx), (fun j h0 h1 => by simp at h1; omega), Int.le_refl _, (fun x hx => by cases hx), (fun x hx => by cases hx)⟩
structure FO (A : Nat) (o : List S70) : Prop where
 ok : ∀ x ∈ o, StepOK x
 ord : ordOK none o
 att : ∀ x ∈ o, SAt A x
theorem FO.dok {A : Nat} {o : List S70} (h : FO A o) (hl : (units o).length ≤ 2147483647) : DOK o := by
 have h1 := nold_le (units o)
 have h2 := nnew_le (units o)
 exact ⟨h.ok, h.ord, by rw [old_units h.ok]; omega, by rw [new_units h.ok]; omega⟩
theorem FO.db {A n : Nat} {o : List S70} (h : FO A o) (hl : (units o).length ≤ n) (ha : A ≤ n) : DB n o := by
 refine ⟨Nat.le_trans (units_len h.ok) hl, fun s hs => ⟨Nat.le_trans (h.att s hs).1 ha, ?_, fun y hy => Nat.le_trans ((h.att s hs).2 y hy) ha⟩⟩
 have h1 := units_mem h.ok s hs
 have h2 := us_len (h.ok s hs)
 omega
theorem wu_len (s : WD) : (wu s).length = (units s.out).length + s.add.length + s.cut.toNat := by simp [wu]; omega
theorem flush_spec {A : Nat} {s : WD} (h : WF A s) (hl : (wu s).length ≤ 2147483647) : FO A (flushD s.out s.add s.cut) ∧ units (flushD s.out s.add s.cut) = wu s ∧ (s.add = [] → s.cut = 0 → flushD s.out s.add s.cut = s.out) ∧
  (flushD s.out s.add s.cut).length ≤ s.out.length + 2 := by
 rw [wu_len] at hl
 have hcut := h.cut
 have h1 : FO A (addD s.out s.add) ∧ units (addD s.out s.add) = units s.out ++ s.add.map .add ∧ (∀ q, (addD s.out s.add).getLast? = some q → q.f0 ≠ 2) := by
  by_cases ha : 0 < s.add.length
  ·have e : addD s.out s.add = s.out ++ [⟨1, 0, [], s.add⟩] := if_pos ha
   have hne : s.add ≠ [] := fun h => by rw [h] at ha; cases ha
   rw [e]
   refine ⟨⟨fun x hx => ?_, (ord_snoc _ _ _).2 ⟨h.ord, fun q hq => ?_⟩, fun x hx => ?_⟩, ?_, fun q hq => ?_⟩
   ·rcases List.mem_append.1 hx with hx | hx
    ·exact h.ok x hx
    ·rw [List.mem_singleton.1 hx]; exact .inr (.inl ⟨rfl, rfl, rfl, hne, h.add⟩)
   ·rw [Option.or_none] at hq
    have := h.last q hq
    exact ⟨fun h => by have := h.1; simp only at this; omega, fun h => by omega⟩
   ·rcases List.mem_append.1 hx with hx | hx
    ·exact h.att x hx
    ·rw [List.mem_singleton.1 hx]; exact ⟨Nat.zero_le _, h.atta⟩
   ·rw [units_app, units_cons, units_nil, List.append_nil]; rfl
   ·rw [List.getLast?_append] at hq
    simp at hq
    rw [← hq]
    show (1 : Int) ≠ 2
    decide
  ·have e : addD s.out s.add = s.out := if_neg ha
   have hne : s.add = [] := List.eq_nil_of_length_eq_zero (by omega)
   rw [e]
   exact ⟨⟨h.ok, h.ord, h.att⟩, by rw [hne]; simp, fun q hq => by have := h.last q hq; omega⟩
 have hlen1 : (addD s.out s.add).length ≤ s.out.length + 1 := by unfold addD; split <;> simp
 refine ⟨?_, ?_, ?_, ?_⟩
 ·unfold flushD cutD
  split
  ·refine ⟨fun x hx => ?_, (ord_snoc _ _ _).2 ⟨h1.1.ord, fun q hq => ?_⟩, fun x hx => ?_⟩
   ·rcases List.mem_append.1 hx with hx | hx
    ·exact h1.1.ok x hx
    ·rw [List.mem_singleton.1 hx]; exact .inr (.inr ⟨rfl, by show 1 ≤ s.cut; omega, by show s.cut ≤ 2147483647; omega, rfl, rfl⟩)
   ·rw [Option.or_none] at hq
    have := h1.2.2 q hq
    exact ⟨fun h => by have := h.1; simp only at this; omega, fun h => by have := h.2; simp only at this; omega⟩
   ·rcases List.mem_append.1 hx with hx | hx
    ·exact h1.1.att x hx
    ·rw [List.mem_singleton.1 hx]; exact ⟨Nat.zero_le _, fun y hy => by cases hy⟩
  ·exact h1.1
 ·unfold flushD cutD wu
  split
  ·rw [units_app, h1.2.1, units_cons, units_nil, List.append_nil]; rfl
  ·rw [h1.2.1, show s.cut.toNat = 0 by omega]; simp
 ·intro ha hc
  unfold flushD cutD addD
  rw [ha, hc]
  rfl
 ·unfold flushD cutD
  split
  ·rw [List.length_append, List.length_singleton]; omega
  ·omega
theorem keepO_false (o : List S70) (n : Int) (t : List S38) : keepO o n t false = o ++ [⟨0, n, t, []⟩] := rfl
theorem last_split {o : List S70} (h : 0 < o.length) : ∃ o' x, o = o' ++ [x] ∧ rd_T70 o ((o.length : Int) - 1) = x := by
 refine ⟨o.dropLast, o.getLast (fun h' => by rw [h'] at h; cases h), (List.dropLast_concat_getLast _).symm, ?_⟩
 rw [show (o.length : Int) - 1 = ((o.length - 1 : Nat) : Int) by omega]
 simp only [rd_T70, Int.toNat_natCast, List.getD_eq_getElem?_getD, List.getElem?_eq_getElem (show o.length - 1 < o.length by omega), Option.getD_some, List.getLast_eq_getElem]
def Joins (o : List S70) (t : List S38) : Prop := ∃ o' x, o = o' ++ [x] ∧ rd_T70 o ((o.length : Int) - 1) = x ∧ x.f0 = 0 ∧ x.f2 = t
theorem keep_core {A : Nat} {s : WD} (n : Int) (t : List S38) (h : WF A s) (hv : VA true t) (ht : t.length ≤ A) (hA : A ≤ 1073741824) (h0 : 1 ≤ n) (hl : ((wu s).length : Int) + n ≤ 1073741824)
  (b : Bool) (hbi : b = true ↔ Joins (flushD s.out s.add s.cut) t) : WF A ⟨keepO (flushD s.out s.add s.cut) n t b, [], 0⟩ ∧ wu ⟨keepO (flushD s.out s.add s.cut) n t b, [], 0⟩ = wu s ++ List.replicate n.toNat (.keep t) := by
 obtain ⟨f1, f2, f3, f4⟩ := flush_spec h (by omega)
 have hol := units_len h.ok
 have hwl := wu_len s
 obtain ⟨o, ho⟩ : ∃ o, o = flushD s.out s.add s.cut := ⟨_, rfl⟩
 rw [← ho] at f1 f2 f3 f4 hbi ⊢
 have pnil : POK [] := fun j h0 h1 => by simp at h1; omega
 cases b with
 | true =>
  obtain ⟨o', x, e, ex, hk, hx⟩ := hbi.1 rfl
  have hxok := f1.ok x (by rw [e]; simp)
  have hxat := f1.att x (by rw [e]; simp)
  have hx' : 1 ≤ x.f1 ∧ x.f3 = [] := by rcases hxok with h | h | h <;> first | exact ⟨h.2.1, h.2.2.2.1⟩ | omega
  have hxl : x.f1.toNat ≤ (wu s).length := by
   have h1 := units_mem f1.ok x (by rw [e]; simp)
   have h2 := us_len hxok
   rw [f2] at h1
   omega
  have e2 : keepO o n t true = o' ++ [⟨0, x.f1 + n, t, []⟩] := by
   rw [keepO, ex, e, w64 (by omega) (by omega), hk, hx, hx'.2]
   rw [List.length_append, List.length_singleton, show o'.length + 1 - 1 = o'.length by omega, List.set_append_right _ _ (Nat.le_refl _)]
   simp
  have hord := f1.ord
  rw [e, ord_snoc] at hord
  have hst : StepOK ⟨0, x.f1 + n, t, []⟩ := .inl ⟨rfl, by show 1 ≤ x.f1 + n; omega, by show x.f1 + n ≤ 2147483647; omega, rfl, hv⟩
  refine ⟨⟨fun y hy => ?_, ?_, fun y hy => ?_, pnil, Int.le_refl _, fun y hy => ?_, fun y hy => by cases hy⟩, ?_⟩
  ·simp only [e2] at hy
   rcases List.mem_append.1 hy with hy | hy
   ·exact f1.ok y (by rw [e]; exact List.mem_append_left _ hy)
   ·rw [List.mem_singleton.1 hy]; exact hst
  ·simp only [e2]
   refine (ord_snoc _ _ _).2 ⟨hord.1, fun q hq => ?_⟩
   have := hord.2 q hq
   exact ⟨fun h => this.1 ⟨by have := h.1; simp only at this; omega, by rcases h.2 with h | h; exact absurd rfl h; exact .inr (by rw [hx]; exact h)⟩, fun h => by have := h.2; simp only at this; omega⟩
  ·simp only [e2] at hy
   rw [List.getLast?_append] at hy
   simp at hy
   rw [← hy]
  ·simp only [e2] at hy
   rcases List.mem_append.1 hy with hy | hy
   ·exact f1.att y (by rw [e]; exact List.mem_append_left _ hy)
   ·rw [List.mem_singleton.1 hy]; exact ⟨ht, fun z hz => by cases hz⟩
  ·rw [← f2, wu, e2, e, units_app, units_app, units_cons, units_cons, units_nil, us_keep hk, us_keep (s := ⟨0, x.f1 + n, t, []⟩) rfl, hx]
   simp only [List.map_nil, List.append_nil, Int.toNat_zero, List.replicate_zero, List.append_assoc]
   rw [List.replicate_append_replicate, show (x.f1 + n).toNat = x.f1.toNat + n.toNat by omega]
 | false =>
  have hst : StepOK ⟨0, n, t, []⟩ := .inl ⟨rfl, h0, by show n ≤ 2147483647; omega, rfl, hv⟩
  refine ⟨⟨fun y hy => ?_, ?_, fun y hy => ?_, pnil, Int.le_refl _, fun y hy => ?_, fun y hy => by cases hy⟩, ?_⟩
  ·simp only [keepO_false] at hy
   rcases List.mem_append.1 hy with hy | hy
   ·exact f1.ok y hy
   ·rw [List.mem_singleton.1 hy]; exact hst
  ·simp only [keepO_false]
   refine (ord_snoc _ _ _).2 ⟨f1.ord, fun q hq => ?_⟩
   rw [Option.or_none] at hq
   refine ⟨fun h => ?_, fun h => by have := h.2; simp only at this; omega⟩
   have hz : 0 < o.length := by
    cases o with
    | nil => cases hq
    | cons a l => simp
   obtain ⟨o', x, e, ex⟩ := last_split hz
   have : x = q := by rw [e, List.getLast?_append] at hq; simpa using hq
   subst this
   rcases h.2 with h' | h'
   ·exact h' rfl
   ·have := hbi.2 ⟨o', x, e, ex, h.1, h'⟩
    cases this
  ·simp only [keepO_false] at hy
   rw [List.getLast?_append] at hy
   simp at hy
   rw [← hy]
  ·simp only [keepO_false] at hy
   rcases List.mem_append.1 hy with hy | hy
   ·exact f1.att y hy
   ·rw [List.mem_singleton.1 hy]; exact ⟨ht, fun z hz => by cases hz⟩
  ·rw [← f2, wu, keepO_false, units_app, units_cons, units_nil, us_keep (s := ⟨0, n, t, []⟩) rfl]
   simp
theorem keep_spec {A : Nat} {s : WD} (n : Int) (t : List S38) (h : WF A s) (hv : VA true t) (ht : t.length ≤ A) (hA : A ≤ 1073741824) (h0 : 1 ≤ n) (hl : ((wu s).length : Int) + n ≤ 1073741824) :
  ∃ s', Ev (fun k => keepF k s n t) s' ∧ WF A s' ∧ wu s' = wu s ++ List.replicate n.toNat (.keep t) := by
 obtain ⟨f1, f2, f3, f4⟩ := flush_spec h (by omega)
 have hol := units_len h.ok
 have hwl := wu_len s
 have core := keep_core n t h hv ht hA h0 hl
 obtain ⟨o, ho⟩ : ∃ o, o = flushD s.out s.add s.cut := ⟨_, rfl⟩
 rw [← ho] at f1 f2 f3 f4 core
 obtain ⟨b, hb, hbi⟩ : ∃ b, Ev (fun k => keepB k o t) b ∧ (b = true ↔ Joins o t) := by
  by_cases hz : 0 < o.length
  ·obtain ⟨o', x, e, ex⟩ := last_split hz
   by_cases hk : x.f0 = 0
   ·obtain ⟨b, hb, hbi⟩ := asame_ev x.f2 t (by have := (f1.att x (by rw [e]; simp)).1; omega)
    refine ⟨b, Ev.congr (fun k => by unfold keepB; rw [if_pos hz, ex, if_pos hk]) hb, hbi.trans ⟨fun h => ⟨o', x, e, ex, hk, h⟩, fun ⟨o2, x2, e2, ex2, _, h⟩ => by rw [← ex, ex2]; exact h⟩⟩
   ·exact ⟨false, Ev.congr (fun k => by unfold keepB; rw [if_pos hz, ex, if_neg hk]) (Ev.now false), ⟨(fun h => by cases h), fun ⟨o2, x2, e2, ex2, h, _⟩ => absurd (by rw [← ex, ex2]; exact h) hk⟩⟩
  ·exact ⟨false, Ev.congr (fun k => by unfold keepB; rw [if_neg hz]) (Ev.now false), ⟨(fun h => by cases h), fun ⟨o2, x2, e2, _⟩ => absurd (by rw [e2]; simp) hz⟩⟩
 exact ⟨⟨keepO o n t b, [], 0⟩, Ev.congr (fun k => by unfold keepF; rw [if_neg (by omega), if_neg (by omega), ← ho]) (Ev.bind hb (Ev.now _)), core b hbi⟩
theorem pok_app {a b : List S84} (ha : POK a) (hb : POK b) : POK (a ++ b) := pok_mem.2 (fun x hx => by rcases List.mem_append.1 hx with hx | hx; exact pok_mem.1 ha x hx; exact pok_mem.1 hb x hx)
theorem elems_spec {A : Nat} {s : WD} (l : List S84) (h : WF A s) (hp : POK l) (hat : ∀ y ∈ l, y.f2.length ≤ A) (hA : A ≤ 1073741824) (hl : (wu s).length + l.length ≤ 1073741824) :
  ∃ s', Ev (fun k => elemsF k s l) s' ∧ WF A s' ∧ E (wu s') (wu s ++ l.map .add) := by
 have hwl := wu_len s
 have hfs : FSmall l := fsmall (n := 1073741824) hp ⟨by omega, fun x hx => Nat.le_trans (hat x hx) hA⟩ (Nat.le_refl _)
 refine ⟨⟨s.out, s.add ++ l, s.cut⟩, Ev.bind (copy_ev l hfs) (Ev.congr (fun k => by rw [if_neg (by omega)]) (Ev.now _)), ⟨h.ok, h.ord, h.last, pok_app h.add hp, h.cut, h.att, fun y hy => ?_⟩, ?_⟩
 ·rcases List.mem_append.1 hy with hy | hy
  ·exact h.atta y hy
  ·exact hat y hy
 ·have := (E.refl (units s.out ++ s.add.map .add)).app (E.swap s.cut.toNat l).symm
  simpa [wu, List.append_assoc] using this
theorem cut_spec {A : Nat} {s : WD} (n : Int) (h : WF A s) (h0 : 0 ≤ n) : WF A ⟨s.out, s.add, s.cut + n⟩ ∧ wu ⟨s.out, s.add, s.cut + n⟩ = wu s ++ List.replicate n.toNat .cut := by
 have := h.cut
 refine ⟨⟨h.ok, h.ord, h.last, h.add, by show 0 ≤ s.cut + n; omega, h.att, h.atta⟩, ?_⟩
 simp only [wu, List.append_assoc, List.replicate_append_replicate]
 rw [show (s.cut + n).toNat = s.cut.toNat + n.toNat by omega]
theorem done_spec {A : Nat} {s : WD} (h : WF A s) (hA : A ≤ 1073741824) (hl : (wu s).length ≤ 1073741824) : ∃ o, Ev (fun k => doneD k s) (o, 0) ∧ FO A o ∧ units o = wu s := by
 obtain ⟨f1, f2, f3, f4⟩ := flush_spec h (by omega)
 have hol := units_len h.ok
 have hwl := wu_len s
 have hd := f1.dok (by rw [f2]; omega)
 obtain ⟨r, hr, hri⟩ := check_ev _ (dsm f1.ok (f1.db (n := 1073741824) (by rw [f2]; omega) hA) (Nat.le_refl _))
 obtain rfl := hri.2 hd
 exact ⟨_, Ev.congr (fun k => by unfold doneD; rw [if_neg (by omega)]) (Ev.bind hr (Ev.congr (fun k => by rw [if_neg (by decide)]) (Ev.now _))), f1, f2⟩
end Go.Proofs.Ytdgemabmmomebaa.PDelta
end
section
namespace Go.Proofs.Ytdgemabmmomebaa.PDelta
open Go.RowKit Go.Proofs.YtdgemabmmomebaaW.PrintWords Go.Proofs.YtdgemabmmomebaaW.PrintLast Go.Proofs.YtdgemabmmomebaaW.PrintMore
end Go.Proofs.Ytdgemabmmomebaa.PDelta
end
section
namespace Go.Proofs.Ytdgemabmmomebaa.PDelta
open Go.RowKit Go.Proofs.YtdgemabmmomebaaW.PrintWords Go.Proofs.YtdgemabmmomebaaW.PrintLast Go.Proofs.YtdgemabmmomebaaW.PrintMore
section
variable {w wr w1 : World} {ga gd n : Nat} {raw : List Int} {As As' : List (List S84)} {Cs Cs' : List Bool} {Ts Ts' : List (List S38)} {cA cB cC vA vB vC u u1 v1 lv : Value} {al al' : List S84} {l : List S38}
end
end Go.Proofs.Ytdgemabmmomebaa.PDelta
end
section
namespace Go.Proofs.Ytdgemabmmomebaa.PDelta
open Go.RowKit Go.Proofs.YtdgemabmmomebaaW.PrintWords Go.Proofs.YtdgemabmmomebaaW.PrintLast Go.Proofs.YtdgemabmmomebaaW.PrintMore
open Go.RowKit Go.Proofs.YtdgemabmmomebaaW.PrintWords Go.Proofs.YtdgemabmmomebaaW.PrintLast Go.Proofs.YtdgemabmmomebaaW.PrintMore
end Go.Proofs.Ytdgemabmmomebaa.PDelta
end
section
namespace Go.Proofs.Ytdgemabmmomebaa.PDelta
open Go.RowKit Go.Proofs.YtdgemabmmomebaaW.PrintWords Go.Proofs.YtdgemabmmomebaaW.PrintLast Go.Proofs.YtdgemabmmomebaaW.PrintMore
theorem let_ab : chancerykeep1_letters.f 20 (⟨#[97, 98]⟩ : ByteArray) = some [⟨97, 0, []⟩, ⟨98, 0, []⟩] := by kernel_rfl
theorem let_x : chancerykeep1_letters.f 20 (⟨#[120]⟩ : ByteArray) = some [⟨120, 0, []⟩] := by kernel_rfl
theorem let_xb : chancerykeep1_letters.f 20 (⟨#[120, 98]⟩ : ByteArray) = some [⟨120, 0, []⟩, ⟨98, 0, []⟩] := by kernel_rfl
theorem app_ab : delta_Apply.f 40 [⟨97, 0, []⟩, ⟨98, 0, []⟩] [⟨1, 0, [], [⟨120, 0, []⟩]⟩, ⟨2, 1, [], []⟩, ⟨0, 1, [], []⟩] = some ([⟨120, 0, []⟩, ⟨98, 0, []⟩], 0) := by kernel_rfl
theorem same_xb : chanceryref1_SameFlow.f 40 [⟨120, 0, []⟩, ⟨98, 0, []⟩] [⟨120, 0, []⟩, ⟨98, 0, []⟩] = some true := by kernel_rfl
set_option maxRecDepth 100000 in
set_option maxHeartbeats 800000 in
theorem deltas_calls (w : World) : Calls Try.prog 41 #[] w fun e w' => e = .returned (.bool true) ∧ Below w.heap.size w w' := by
 have hu70 := Try.underlying70
 have HB0 := Aside0.mk (Below.refl w.heap.size w)
 obtain ⟨la, hla⟩ : ∃ l : List S84, l = [⟨97, 0, []⟩, ⟨98, 0, []⟩] := ⟨_, rfl⟩
 obtain ⟨lx, hlx⟩ : ∃ l : List S84, l = [⟨120, 0, []⟩] := ⟨_, rfl⟩
 obtain ⟨lr, hlr⟩ : ∃ l : List S84, l = [⟨120, 0, []⟩, ⟨98, 0, []⟩] := ⟨_, rfl⟩
 have H1 := Aside0.mk let_ab
 have H2 := Aside0.mk let_x
 have H3 := Aside0.mk app_ab
 have H4 := Aside0.mk let_xb
 have H5 := Aside0.mk same_xb
 rw [← hla] at H1 H3
 rw [← hlx] at H2 H3
 obtain ⟨ld, hld⟩ : ∃ l : List S70, l = [⟨1, 0, [], lx⟩, ⟨2, 1, [], []⟩, ⟨0, 1, [], []⟩] := ⟨_, rfl⟩
 rw [← hld] at H3
 have HLD := Aside0.mk hld
 clear hld
 rw [← hlr] at H3 H4 H5
 clear hla hlx hlr
 go_enter Try.func41, Try.ntmps41
 go_upto_region 2 with (first
  | (go_at_call 81; with_reducible refine (chancerykeep1_letters.calls 20 _ la _ H1.out).mono ?_; rintro e w1 ⟨v1, rfl, hN1, hb1⟩; obtain ⟨A1, n1, rfl⟩ := Kd.S_slice hN1; have HN1 := Aside0.mk hN1; have HB1 := Aside0.mk hb1; clear hN1 hb1)
  | (go_at_call 81; with_reducible refine (chancerykeep1_letters.calls 20 _ lx _ H2.out).mono ?_; rintro e w2 ⟨v2, rfl, hN2, hb2⟩; obtain ⟨A2, n2, rfl⟩ := Kd.S_slice hN2; have HN2 := Aside0.mk hN2; have HB2 := Aside0.mk (below_step HB1.out hb2); have HN1' := Aside0.mk (Kd.S_below HN1.out hb2); clear hN2 hb2 HN1)
  | ((with_reducible refine gate_dst (N := 9) rfl ?_); refine Kd.N_lit k70 w2.heap.size 70 ?hg (N' := 9) ?hd (xs := [⟨1, 0, [], lx⟩, ⟨2, 1, [], []⟩, ⟨0, 1, [], []⟩]) (inner := [.int .i64 1, .int .i64 0, .slice none 0 0, .slice A2 lx.length n2, .int .i64 2, .int .i64 1, .slice none 0 0, .slice none 0 0, .int .i64 0, .int .i64 1, .slice none 0 0, .slice none 0 0]) (ok := fun _ => True) (okp := fun _ => True) ?hr ?hp (fun _ hk => hk) trivial (Below.refl _ _) (Nat.le_refl _) (by simp) ?_; (case hd => rfl); (case hg => rfl); (case hr => first | (go_simp; done) | (go_simp; rfl)); (case hp => exact Reps.c4 (k70_mkF _ _ ⟨1, 0, [], lx⟩ (Nat.le_refl 0) (Kd.F_nil _ _ _) (Kd.N_reads' (Kd.S_N HN2.out)).2.1 (Kd.S_F HN2.out)) (Reps.c4 (k70_mkF _ _ ⟨2, 1, [], []⟩ (Nat.le_refl 0) (Kd.F_nil _ _ _) (Nat.le_refl 0) (Kd.F_nil _ _ _)) (Reps.c4 (k70_mkF _ _ ⟨0, 1, [], []⟩ (Nat.le_refl 0) (Kd.F_nil _ _ _) (Nat.le_refl 0) (Kd.F_nil _ _ _)) (Reps.none _ _)))); intro v3 w3 hN3 hb3 hg3 hat3; rw [← HLD.out] at hN3; obtain ⟨A3, n3, rfl⟩ := Kd.N_slice hN3; have HN3 := Aside0.mk hN3; have HB3 := Aside0.mk (below_step HB2.out hb3); have HN1 := Aside0.mk (Kd.S_below HN1'.out hb3); clear hN3 hb3 hg3 hat3 HN1')
  | (go_at_call 48; with_reducible refine (delta_Apply.calls 40 (fun _ => True) A1 n1 la A3 n3 ld lr 0 _ (Kd.S_V HN1.out) (Kd.N_reads' HN3.out).2.2 (Kd.N_reads' HN3.out).2.1 H3.out).mono ?_; rintro e w4 ⟨v4, rfl, hN4, hb4⟩; obtain ⟨A4, n4, rfl⟩ := Kd.N_slice hN4; have HN4 := Aside0.mk hN4; have HB4 := Aside0.mk (below_step HB3.out hb4); clear hN4 hb4))
 go_wp2_with (first
  | (go_at_call 81; with_reducible refine (chancerykeep1_letters.calls 20 _ lr _ H4.out).mono ?_; rintro e w5 ⟨v5, rfl, hN5, hb5⟩; obtain ⟨A5, n5, rfl⟩ := Kd.S_slice hN5; have HN5 := Aside0.mk hN5; have HB5 := Aside0.mk (below_step HB4.out hb5); have HN4' := Aside0.mk (Kd.N_below HN4.out hb5); clear hN5 hb5 HN4)
  | (go_at_call 50; with_reducible refine (chanceryref1_SameFlow.calls 40 A4 n4 lr A5 n5 lr true _ (Kd.N_reads' HN4'.out).2.2 (Kd.N_reads' HN4'.out).2.1 (Kd.N_reads' (Kd.S_N HN5.out)).2.2 (Kd.N_reads' (Kd.S_N HN5.out)).2.1 H5.out).mono ?_; rintro e w6 ⟨rfl, hb6⟩; have HB6 := Aside0.mk (below_step HB5.out hb6); clear hb6))
 go_ret
 exact ⟨rfl, HB6.out⟩
end Go.Proofs.Ytdgemabmmomebaa.PDelta
end
section
namespace Go.Proofs.Ytdgemabmmomebaa.PDelta
open Go.RowKit Go.Proofs.YtdgemabmmomebaaW.PrintWords Go.Proofs.YtdgemabmmomebaaW.PrintLast Go.Proofs.YtdgemabmmomebaaW.PrintMore
end Go.Proofs.Ytdgemabmmomebaa.PDelta
end
section
namespace Go.Proofs.Ytdgemabmmomebaa.PDelta
open Go.RowKit Go.Proofs.YtdgemabmmomebaaW.PrintWords Go.Proofs.YtdgemabmmomebaaW.PrintLast Go.Proofs.YtdgemabmmomebaaW.PrintMore
def FFine (f : List S84) : Prop := f.length ≤ 1048576 ∧ ∀ x ∈ f, Small x.f2 ∧ x.f2.length ≤ 1048576
theorem FFine.fsmall {f : List S84} (h : FFine f) : FSmall f := ⟨by have := h.1; omega, fun x hx => ⟨(h.2 x hx).1, by have := (h.2 x hx).2; omega⟩⟩
theorem FFine.lb {f : List S84} (h : FFine f) : LB 1048576 f := ⟨h.1, fun x hx => (h.2 x hx).2⟩
def Alk (x y : S84) : Prop := x.f0 = y.f0 ∧ x.f1 = y.f1
instance (x y : S84) : Decidable (Alk x y) := by unfold Alk; infer_instance
noncomputable instance (x y : S84) : Decidable (x.f2 = y.f2) := Classical.propDecidable _
noncomputable def prc (x y : S84) : Nat := if x.f2 = y.f2 then 0 else 1
noncomputable def tc : List S84 → List S84 → Nat
 | [], b => b.length
 | x :: a, [] => a.length + 1
 | x :: a, y :: b => if Alk x y then min (1 + min (tc a (y :: b)) (tc (x :: a) b)) (tc a b + prc x y) else 1 + min (tc a (y :: b)) (tc (x :: a) b)
termination_by a b => a.length + b.length
theorem tc_nil (b : List S84) : tc [] b = b.length := by rw [tc]
theorem tc_nil' (a : List S84) : tc a [] = a.length := by cases a with
 | nil => rw [tc]
 | cons x a => rw [tc]; rfl
theorem tc_cons (x : S84) (a : List S84) (y : S84) (b : List S84) : tc (x :: a) (y :: b) = if Alk x y then min (1 + min (tc a (y :: b)) (tc (x :: a) b)) (tc a b + prc x y) else 1 + min (tc a (y :: b)) (tc (x :: a) b) := by rw [tc]
theorem prc_comm (x y : S84) : prc x y = prc y x := by
 unfold prc
 by_cases h : x.f2 = y.f2
 ·rw [if_pos h, if_pos h.symm]
 ·rw [if_neg h, if_neg (fun e => h e.symm)]
theorem tc_comm : ∀ (n : Nat) (a b : List S84), a.length + b.length ≤ n → tc a b = tc b a
 | n, [], b, _ => by rw [tc_nil, tc_nil']
 | n, x :: a, [], _ => by rw [tc_nil, tc_nil']
 | 0, x :: a, y :: b, h => by simp at h
 | n + 1, x :: a, y :: b, h => by
  simp only [List.length_cons] at h
  have h1 := tc_comm n a (y :: b) (by simp only [List.length_cons]; omega)
  have h2 := tc_comm n (x :: a) b (by simp only [List.length_cons]; omega)
  have h3 := tc_comm n a b (by omega)
  have hp := prc_comm x y
  rw [tc_cons, tc_cons, h1, h2, h3, hp]
  by_cases hk : Alk x y
  ·rw [if_pos hk, if_pos ⟨hk.1.symm, hk.2.symm⟩]; omega
  ·rw [if_neg hk, if_neg (fun e => hk ⟨e.1.symm, e.2.symm⟩)]; omega
theorem tc_le : ∀ (n : Nat) (a b : List S84), a.length + b.length ≤ n → tc a b ≤ a.length + b.length
 | n, [], b, _ => by rw [tc_nil]; omega
 | n, x :: a, [], _ => by rw [tc_nil']; omega
 | 0, x :: a, y :: b, h => by simp at h
 | n + 1, x :: a, y :: b, h => by
  simp only [List.length_cons] at h
  have h1 := tc_le n a (y :: b) (by simp only [List.length_cons]; omega)
  rw [tc_cons]
  simp only [List.length_cons] at h1 ⊢
  split <;> omega
inductive Way : List S84 → List S84 → List Un → Prop
 | nil : Way [] [] []
 | keep {x y : S84} {a b : List S84} {u : List Un} : Alk x y → Way a b u → Way (x :: a) (y :: b) (.keep (mrg changeE x.f2 y.f2) :: u)
 | cut {x : S84} {a b : List S84} {u : List Un} : Way a b u → Way (x :: a) b (.cut :: u)
 | add {y : S84} {a b : List S84} {u : List Un} : Way a b u → Way a (y :: b) (.add y :: u)
theorem Way.leads {a b : List S84} {u : List Un} (h : Way a b u) : (∀ x ∈ a, ElemOK x) → (∀ y ∈ b, ElemOK y) → run a u = (b, []) ∧ nold u = a.length ∧ nnew u = b.length ∧ u.length ≤ a.length + b.length := by
 induction h with
 | nil => intro _ _; exact ⟨rfl, rfl, rfl, Nat.le_refl _⟩
 | @keep x y a b u hk h ih =>
  intro ha hb
  obtain ⟨e, o, n, l⟩ := ih (fun z hz => ha z (List.mem_cons_of_mem _ hz)) (fun z hz => hb z (List.mem_cons_of_mem _ hz))
  have hy := hb y List.mem_cons_self
  have hx := ha x List.mem_cons_self
  refine ⟨?_, by simp only [nold, List.length_cons]; omega, by simp only [nnew, List.length_cons]; omega, by simp only [List.length_cons]; omega⟩
  rw [run, e]
  simp only
  have : app (mrg changeE x.f2 y.f2) x = y := by
   unfold app
   rw [lead_back hx.2 hy.2]
   cases x; cases y
   obtain ⟨h1, h2⟩ := hk
   simp only at h1 h2
   subst h1 h2
   rfl
  rw [this]
 | @cut x a b u h ih =>
  intro ha hb
  obtain ⟨e, o, n, l⟩ := ih (fun z hz => ha z (List.mem_cons_of_mem _ hz)) hb
  exact ⟨by rw [run, e], by simp only [nold, List.length_cons]; omega, by simp only [nnew]; omega, by simp only [List.length_cons]; omega⟩
 | @add y a b u h ih =>
  intro ha hb
  obtain ⟨e, o, n, l⟩ := ih ha (fun z hz => hb z (List.mem_cons_of_mem _ hz))
  exact ⟨by rw [run, e], by simp only [nold]; omega, by simp only [nnew, List.length_cons]; omega, by simp only [List.length_cons]; omega⟩
theorem info3 : (Try.prog.info? 3).map (fun i => (i.zero, i.size, i.bytes)) = some (some (.int .i64 0), 1, 8) := by kernel_rfl
theorem info43 : (Try.prog.info? 43).map (fun i => (i.zero, i.size, i.bytes)) = some (some (.slice none 0 0), 1, 24) := by kernel_rfl
def rd_L7 (xs : List (List Int)) (i : Int) : (List Int) := xs.getD i.toNat ([] : List Int)
theorem at_L7 {w : World} {A : Option Addr} {n : Nat} {xs : List (List Int)} (h : Kd.C (Kd.slice 3 (Kd.int .i64)) w A n xs) (i : Int) (h0 : 0 ≤ i) (h1 : i < n) : ∃ ad A0 c0, A = some ad ∧ w.cell? (ad.add i.toNat) = some (.slice A0 (rd_L7 xs i).length c0) ∧ (rd_L7 xs i).length ≤ c0 ∧ (Kd.int .i64).C w A0 (rd_L7 xs i).length (rd_L7 xs i) := by
 obtain ⟨ad, c, e, _, hK, hc0⟩ := Kd.C_get h ([] : List Int) i h0 h1
 have hc : ∀ j u, c[j]? = some u → w.cell? (ad.add (i.toNat * 1 + j)) = some u := hc0
 obtain ⟨A0, c0, rfl, l0, g0⟩ := hK
 exact ⟨ad, A0, c0, e, by have hq := hc 0 _ rfl; rwa [Nat.mul_one, Nat.add_zero] at hq, l0, g0⟩
end Go.Proofs.Ytdgemabmmomebaa.PDelta
end
section
namespace Go.Proofs.Ytdgemabmmomebaa.PDelta
open Go.RowKit Go.Proofs.YtdgemabmmomebaaW.PrintWords Go.Proofs.YtdgemabmmomebaaW.PrintLast Go.Proofs.YtdgemabmmomebaaW.PrintMore
attribute [local go_sem] max2_int min2_int max_two min_two max_three min_three max_four min_four
attribute [local go_sem high] Go.Proofs.Ytdgemabmmomebaa.Ord.leq_str Go.Proofs.Ytdgemabmmomebaa.Ord.gtr_str Go.Proofs.Ytdgemabmmomebaa.Ord.geq_str
def diff_alike.f (a0_0 : Int) (a0_1 : Int) (l0_2 : List (S38)) (a1_0 : Int) (a1_1 : Int) (l1_2 : List (S38)) : Option (Bool) := if a0_0 = a1_0 then (some (a0_1 == a1_1)) else (some false)
set_option maxHeartbeats 8000000 in
set_option maxRecDepth 100000 in
theorem diff_alike.calls (a0_0 : Int) (a0_1 : Int) (A0_2 : Option Addr) (c0_2 : Nat) (l0_2 : List (S38)) (a1_0 : Int) (a1_1 : Int) (A1_2 : Option Addr) (c1_2 : Nat) (l1_2 : List (S38)) (r : Bool) (w : World) (hr0_2 : Kd.C k38 w A0_2 l0_2.length l0_2) (hc0_2 : l0_2.length ≤ c0_2) (hr1_2 : Kd.C k38 w A1_2 l1_2.length l1_2) (hc1_2 : l1_2.length ≤ c1_2) (h : diff_alike.f a0_0 a0_1 l0_2 a1_0 a1_1 l1_2 = some r) :
  Calls Try.prog 116 #[.agg #[.int .i64 a0_0, .int .i64 a0_1, .slice A0_2 l0_2.length c0_2], .agg #[.int .i64 a1_0, .int .i64 a1_1, .slice A1_2 l1_2.length c1_2]] w fun e w' => e = .returned (.bool r) ∧ Below w.heap.size w w' := by
 have hu84 := Try.underlying84
 have HR0_2 := Aside0.mk hr0_2
 have HC0_2 := Aside0.mk hc0_2
 clear hr0_2 hc0_2
 have HR1_2 := Aside0.mk hr1_2
 have HC1_2 := Aside0.mk hc1_2
 clear hr1_2 hc1_2
 have HB := Aside0.mk (Below.refl w.heap.size w)
 have H : (if a0_0 = a1_0 then (some (a0_1 == a1_1)) else (some false)) = some r := h
 clear h
 by_cases c3 : a0_0 = a1_0
 ·rw [if_pos c3] at H
  have c3b0 : (a0_0 == a1_0) = true := beq_iff_eq.mpr c3
  have c3b1 : (a0_0 != a1_0) = false := bne_eq_false_iff_eq.mpr c3
  clear c3
  obtain rfl := Option.some.inj H
  go_enter Try.func116, Try.ntmps116
  go_wp2_with (first | ((with_reducible refine gate_dst (N := 2) rfl ?_); refine box_event ?hg (N := 2) ?hd (cs := #[.int .i64 a0_0, .int .i64 a0_1, .slice A0_2 l0_2.length c0_2]) (t := 84) ?hr ?_; (case hd => rfl); (case hg => rfl); (case hr => first | (go_simp; done) | (go_simp; rfl)); intro gb240 hg w4 hbox hb; have n0_ := Aside0.mk (below_step (by with_reducible repeat first | exact HB.out | apply below_alloc | apply pw_below_drewN | apply below_drew1) hb); have n1_ := Aside0.mk (hbox); have n2_ := Aside0.mk ((by rw [hg]; exact (below_size (by with_reducible repeat first | exact HB.out | apply below_alloc | apply pw_below_drewN | apply below_drew1)) : w.heap.size ≤ gb240)); have n3_ := Aside0.mk ((by rw [hg]; exact (below_size (by with_reducible repeat first | exact HB.out | apply below_alloc | apply pw_below_drewN | apply below_drew1)) : w.heap.size ≤ gb240)); clear HB; have HB := n0_; have BK240 := n1_; have GW240 := n2_; have GE240 := n3_; clear n0_ n1_ n2_ n3_; clear hb hbox hg) | ((with_reducible refine gate_dst (N := 3) rfl ?_); refine box_event ?hg (N := 3) ?hd (cs := #[.int .i64 a1_0, .int .i64 a1_1, .slice A1_2 l1_2.length c1_2]) (t := 84) ?hr ?_; (case hd => rfl); (case hg => rfl); (case hr => first | (go_simp; done) | (go_simp; rfl)); intro gb241 hg w5 hbox hb; have n0_ := Aside0.mk (blk_below (g := gb240) (o := .cells #[.int .i64 a0_0, .int .i64 a0_1, .slice A0_2 l0_2.length c0_2] 84 (0, 0)) (by (with_reducible repeat (first | refine blk_drewN ?_ _ | refine blk_drew ?_ | refine blk_alloc ?_ _)); exact BK240.out) hb); have n1_ := Aside0.mk (below_step (by repeat (first | (with_reducible first | exact HB.out | apply below_alloc | apply pw_below_drewN | apply below_drew1 | refine below_set ?_ GE240.out) | exact HB.out)) hb); have n2_ := Aside0.mk (hbox); have n3_ := Aside0.mk ((by rw [hg]; exact (below_size (by repeat (first | (with_reducible first | exact HB.out | apply below_alloc | apply pw_below_drewN | apply below_drew1 | refine below_set ?_ GE240.out) | exact HB.out))) : w.heap.size ≤ gb241)); have n4_ := Aside0.mk ((by rw [hg]; exact (below_size (by repeat (first | (with_reducible first | exact HB.out | apply below_alloc | apply pw_below_drewN | apply below_drew1 | refine below_set ?_ GE240.out) | exact HB.out))) : w.heap.size ≤ gb241)); have n5_ := Aside0.mk ((by rw [hg]; exact Nat.ne_of_lt (blk_lt (g := gb240) (o := .cells #[.int .i64 a0_0, .int .i64 a0_1, .slice A0_2 l0_2.length c0_2] 84 (0, 0)) (by (with_reducible repeat (first | refine blk_drewN ?_ _ | refine blk_drew ?_ | refine blk_alloc ?_ _)); exact BK240.out)) : gb240 ≠ gb241)); have n6_ := Aside0.mk ((by rw [hg]; exact Nat.ne_of_gt (blk_lt (g := gb240) (o := .cells #[.int .i64 a0_0, .int .i64 a0_1, .slice A0_2 l0_2.length c0_2] 84 (0, 0)) (by (with_reducible repeat (first | refine blk_drewN ?_ _ | refine blk_drew ?_ | refine blk_alloc ?_ _)); exact BK240.out)) : gb241 ≠ gb240)); clear BK240; clear HB; have BK240 := n0_; have HB := n1_; have BK241 := n2_; have GW241 := n3_; have GE241 := n4_; have NB240_241 := n5_; have NB241_240 := n6_; clear n0_ n1_ n2_ n3_ n4_ n5_ n6_; clear hb hbox hg; have hnb6 := NB240_241.out; have hnc6 := NB241_240.out; have hcz7_0 : w5.cell? ⟨gb240, 0, none⟩ = some (.int .i64 a0_0) := (blk_cell BK240.out 0).trans rfl; have hcz7_1 : w5.cell? ⟨gb240, 1, none⟩ = some (.int .i64 a0_1) := (blk_cell BK240.out 1).trans rfl; have hcz7_2 : w5.cell? ⟨gb240, 2, none⟩ = some (.slice A0_2 l0_2.length c0_2) := (blk_cell BK240.out 2).trans rfl; have hfz7_0 := blk_frozen BK240.out 0; have hfz7_1 := blk_frozen BK240.out 1; have hfz7_2 := blk_frozen BK240.out 2; have hcz8_0 : w5.cell? ⟨gb241, 0, none⟩ = some (.int .i64 a1_0) := (blk_cell BK241.out 0).trans rfl; have hcz8_1 : w5.cell? ⟨gb241, 1, none⟩ = some (.int .i64 a1_1) := (blk_cell BK241.out 1).trans rfl; have hcz8_2 : w5.cell? ⟨gb241, 2, none⟩ = some (.slice A1_2 l1_2.length c1_2) := (blk_cell BK241.out 2).trans rfl; have hfz8_0 := blk_frozen BK241.out 0; have hfz8_1 := blk_frozen BK241.out 1; have hfz8_2 := blk_frozen BK241.out 2))
  go_ret
  exact ⟨by first | rfl | (simp [errW_none, errW_some] <;> rfl) | (simp [*, errW_none, errW_some] <;> rfl), by repeat (first | (with_reducible first | exact HB.out | apply below_alloc | apply pw_below_drewN | apply below_drew1 | refine below_set ?_ GE240.out | refine below_set ?_ GE241.out) | exact HB.out)⟩
 ·rw [if_neg c3] at H
  have c3b0 : (a0_0 == a1_0) = false := beq_eq_false_iff_ne.mpr c3
  have c3b1 : (a0_0 != a1_0) = true := bne_iff_ne.mpr c3
  obtain rfl := Option.some.inj H
  go_enter Try.func116, Try.ntmps116
  go_wp2_with (first | ((with_reducible refine gate_dst (N := 2) rfl ?_); refine box_event ?hg (N := 2) ?hd (cs := #[.int .i64 a0_0, .int .i64 a0_1, .slice A0_2 l0_2.length c0_2]) (t := 84) ?hr ?_; (case hd => rfl); (case hg => rfl); (case hr => first | (go_simp; done) | (go_simp; rfl)); intro gb240 hg w9 hbox hb; have n0_ := Aside0.mk (below_step (by with_reducible repeat first | exact HB.out | apply below_alloc | apply pw_below_drewN | apply below_drew1) hb); have n1_ := Aside0.mk (hbox); have n2_ := Aside0.mk ((by rw [hg]; exact (below_size (by with_reducible repeat first | exact HB.out | apply below_alloc | apply pw_below_drewN | apply below_drew1)) : w.heap.size ≤ gb240)); have n3_ := Aside0.mk ((by rw [hg]; exact (below_size (by with_reducible repeat first | exact HB.out | apply below_alloc | apply pw_below_drewN | apply below_drew1)) : w.heap.size ≤ gb240)); clear HB; have HB := n0_; have BK240 := n1_; have GW240 := n2_; have GE240 := n3_; clear n0_ n1_ n2_ n3_; clear hb hbox hg) | ((with_reducible refine gate_dst (N := 3) rfl ?_); refine box_event ?hg (N := 3) ?hd (cs := #[.int .i64 a1_0, .int .i64 a1_1, .slice A1_2 l1_2.length c1_2]) (t := 84) ?hr ?_; (case hd => rfl); (case hg => rfl); (case hr => first | (go_simp; done) | (go_simp; rfl)); intro gb241 hg w10 hbox hb; have n0_ := Aside0.mk (blk_below (g := gb240) (o := .cells #[.int .i64 a0_0, .int .i64 a0_1, .slice A0_2 l0_2.length c0_2] 84 (0, 0)) (by (with_reducible repeat (first | refine blk_drewN ?_ _ | refine blk_drew ?_ | refine blk_alloc ?_ _)); exact BK240.out) hb); have n1_ := Aside0.mk (below_step (by repeat (first | (with_reducible first | exact HB.out | apply below_alloc | apply pw_below_drewN | apply below_drew1 | refine below_set ?_ GE240.out) | exact HB.out)) hb); have n2_ := Aside0.mk (hbox); have n3_ := Aside0.mk ((by rw [hg]; exact (below_size (by repeat (first | (with_reducible first | exact HB.out | apply below_alloc | apply pw_below_drewN | apply below_drew1 | refine below_set ?_ GE240.out) | exact HB.out))) : w.heap.size ≤ gb241)); have n4_ := Aside0.mk ((by rw [hg]; exact (below_size (by repeat (first | (with_reducible first | exact HB.out | apply below_alloc | apply pw_below_drewN | apply below_drew1 | refine below_set ?_ GE240.out) | exact HB.out))) : w.heap.size ≤ gb241)); have n5_ := Aside0.mk ((by rw [hg]; exact Nat.ne_of_lt (blk_lt (g := gb240) (o := .cells #[.int .i64 a0_0, .int .i64 a0_1, .slice A0_2 l0_2.length c0_2] 84 (0, 0)) (by (with_reducible repeat (first | refine blk_drewN ?_ _ | refine blk_drew ?_ | refine blk_alloc ?_ _)); exact BK240.out)) : gb240 ≠ gb241)); have n6_ := Aside0.mk ((by rw [hg]; exact Nat.ne_of_gt (blk_lt (g := gb240) (o := .cells #[.int .i64 a0_0, .int .i64 a0_1, .slice A0_2 l0_2.length c0_2] 84 (0, 0)) (by (with_reducible repeat (first | refine blk_drewN ?_ _ | refine blk_drew ?_ | refine blk_alloc ?_ _)); exact BK240.out)) : gb241 ≠ gb240)); clear BK240; clear HB; have BK240 := n0_; have HB := n1_; have BK241 := n2_; have GW241 := n3_; have GE241 := n4_; have NB240_241 := n5_; have NB241_240 := n6_; clear n0_ n1_ n2_ n3_ n4_ n5_ n6_; clear hb hbox hg; have hnb11 := NB240_241.out; have hnc11 := NB241_240.out; have hcz12_0 : w10.cell? ⟨gb240, 0, none⟩ = some (.int .i64 a0_0) := (blk_cell BK240.out 0).trans rfl; have hcz12_1 : w10.cell? ⟨gb240, 1, none⟩ = some (.int .i64 a0_1) := (blk_cell BK240.out 1).trans rfl; have hcz12_2 : w10.cell? ⟨gb240, 2, none⟩ = some (.slice A0_2 l0_2.length c0_2) := (blk_cell BK240.out 2).trans rfl; have hfz12_0 := blk_frozen BK240.out 0; have hfz12_1 := blk_frozen BK240.out 1; have hfz12_2 := blk_frozen BK240.out 2; have hcz13_0 : w10.cell? ⟨gb241, 0, none⟩ = some (.int .i64 a1_0) := (blk_cell BK241.out 0).trans rfl; have hcz13_1 : w10.cell? ⟨gb241, 1, none⟩ = some (.int .i64 a1_1) := (blk_cell BK241.out 1).trans rfl; have hcz13_2 : w10.cell? ⟨gb241, 2, none⟩ = some (.slice A1_2 l1_2.length c1_2) := (blk_cell BK241.out 2).trans rfl; have hfz13_0 := blk_frozen BK241.out 0; have hfz13_1 := blk_frozen BK241.out 1; have hfz13_2 := blk_frozen BK241.out 2))
  go_ret
  exact ⟨by first | rfl | (simp [errW_none, errW_some] <;> rfl) | (simp [*, errW_none, errW_some] <;> rfl), by repeat (first | (with_reducible first | exact HB.out | apply below_alloc | apply pw_below_drewN | apply below_drew1 | refine below_set ?_ GE240.out | refine below_set ?_ GE241.out) | exact HB.out)⟩
def diff_price.f (k : Nat) (a0_0 : Int) (a0_1 : Int) (l0_2 : List (S38)) (a1_0 : Int) (a1_1 : Int) (l1_2 : List (S38)) : Option (Int) := (attr_Same.f k l0_2 l1_2).bind fun t244 => (if t244 = true then (some 0) else (some 1))
set_option maxHeartbeats 8000000 in
set_option maxRecDepth 100000 in
theorem diff_price.calls (k : Nat) (a0_0 : Int) (a0_1 : Int) (A0_2 : Option Addr) (c0_2 : Nat) (l0_2 : List (S38)) (a1_0 : Int) (a1_1 : Int) (A1_2 : Option Addr) (c1_2 : Nat) (l1_2 : List (S38)) (r : Int) (w : World) (hr0_2 : Kd.C k38 w A0_2 l0_2.length l0_2) (hc0_2 : l0_2.length ≤ c0_2) (hr1_2 : Kd.C k38 w A1_2 l1_2.length l1_2) (hc1_2 : l1_2.length ≤ c1_2) (h : diff_price.f k a0_0 a0_1 l0_2 a1_0 a1_1 l1_2 = some r) :
  Calls Try.prog 117 #[.agg #[.int .i64 a0_0, .int .i64 a0_1, .slice A0_2 l0_2.length c0_2], .agg #[.int .i64 a1_0, .int .i64 a1_1, .slice A1_2 l1_2.length c1_2]] w fun e w' => e = .returned (.int .i64 r) ∧ Below w.heap.size w w' := by
 have hu84 := Try.underlying84
 have HR0_2 := Aside0.mk hr0_2
 have HC0_2 := Aside0.mk hc0_2
 clear hr0_2 hc0_2
 have HR1_2 := Aside0.mk hr1_2
 have HC1_2 := Aside0.mk hc1_2
 clear hr1_2 hc1_2
 have HB := Aside0.mk (Below.refl w.heap.size w)
 have H : ((attr_Same.f k l0_2 l1_2).bind fun t244 => (if t244 = true then (some 0) else (some 1))) = some r := h
 clear h
 replace H := Option.bind_eq_some_iff.mp H
 obtain ⟨t244, A30, H⟩ := H
 replace H : (if t244 = true then (some 0) else (some 1)) = some r := H
 have A3 := Aside0.mk A30
 clear A30
 by_cases c4 : t244 = true
 ·subst c4
  have H1 : (some 0) = some r := by rw [if_pos rfl] at H; exact H
  clear H
  have H := H1
  clear H1
  obtain rfl := Option.some.inj H
  go_enter Try.func117, Try.ntmps117
  go_wp2_with (first | ((with_reducible refine gate_dst (N := 2) rfl ?_); refine box_event ?hg (N := 2) ?hd (cs := #[.int .i64 a0_0, .int .i64 a0_1, .slice A0_2 l0_2.length c0_2]) (t := 84) ?hr ?_; (case hd => rfl); (case hg => rfl); (case hr => first | (go_simp; done) | (go_simp; rfl)); intro gb242 hg w5 hbox hb; have n0_ := Aside0.mk (below_step (by with_reducible repeat first | exact HB.out | apply below_alloc | apply pw_below_drewN | apply below_drew1) hb); have n1_ := Aside0.mk (hbox); have n2_ := Aside0.mk ((by rw [hg]; exact (below_size (by with_reducible repeat first | exact HB.out | apply below_alloc | apply pw_below_drewN | apply below_drew1)) : w.heap.size ≤ gb242)); have n3_ := Aside0.mk ((by rw [hg]; exact (below_size (by with_reducible repeat first | exact HB.out | apply below_alloc | apply pw_below_drewN | apply below_drew1)) : w.heap.size ≤ gb242)); clear HB; have HB := n0_; have BK242 := n1_; have GW242 := n2_; have GE242 := n3_; clear n0_ n1_ n2_ n3_; clear hb hbox hg) | ((with_reducible refine gate_dst (N := 3) rfl ?_); refine box_event ?hg (N := 3) ?hd (cs := #[.int .i64 a1_0, .int .i64 a1_1, .slice A1_2 l1_2.length c1_2]) (t := 84) ?hr ?_; (case hd => rfl); (case hg => rfl); (case hr => first | (go_simp; done) | (go_simp; rfl)); intro gb243 hg w6 hbox hb; have n0_ := Aside0.mk (blk_below (g := gb242) (o := .cells #[.int .i64 a0_0, .int .i64 a0_1, .slice A0_2 l0_2.length c0_2] 84 (0, 0)) (by (with_reducible repeat (first | refine blk_drewN ?_ _ | refine blk_drew ?_ | refine blk_alloc ?_ _)); exact BK242.out) hb); have n1_ := Aside0.mk (below_step (by repeat (first | (with_reducible first | exact HB.out | apply below_alloc | apply pw_below_drewN | apply below_drew1 | refine below_set ?_ GE242.out) | exact HB.out)) hb); have n2_ := Aside0.mk (hbox); have n3_ := Aside0.mk ((by rw [hg]; exact (below_size (by repeat (first | (with_reducible first | exact HB.out | apply below_alloc | apply pw_below_drewN | apply below_drew1 | refine below_set ?_ GE242.out) | exact HB.out))) : w.heap.size ≤ gb243)); have n4_ := Aside0.mk ((by rw [hg]; exact (below_size (by repeat (first | (with_reducible first | exact HB.out | apply below_alloc | apply pw_below_drewN | apply below_drew1 | refine below_set ?_ GE242.out) | exact HB.out))) : w.heap.size ≤ gb243)); have n5_ := Aside0.mk ((by rw [hg]; exact Nat.ne_of_lt (blk_lt (g := gb242) (o := .cells #[.int .i64 a0_0, .int .i64 a0_1, .slice A0_2 l0_2.length c0_2] 84 (0, 0)) (by (with_reducible repeat (first | refine blk_drewN ?_ _ | refine blk_drew ?_ | refine blk_alloc ?_ _)); exact BK242.out)) : gb242 ≠ gb243)); have n6_ := Aside0.mk ((by rw [hg]; exact Nat.ne_of_gt (blk_lt (g := gb242) (o := .cells #[.int .i64 a0_0, .int .i64 a0_1, .slice A0_2 l0_2.length c0_2] 84 (0, 0)) (by (with_reducible repeat (first | refine blk_drewN ?_ _ | refine blk_drew ?_ | refine blk_alloc ?_ _)); exact BK242.out)) : gb243 ≠ gb242)); clear BK242; clear HB; have BK242 := n0_; have HB := n1_; have BK243 := n2_; have GW243 := n3_; have GE243 := n4_; have NB242_243 := n5_; have NB243_242 := n6_; clear n0_ n1_ n2_ n3_ n4_ n5_ n6_; clear hb hbox hg; have hnb7 := NB242_243.out; have hnc7 := NB243_242.out; have hcz8_0 : w6.cell? ⟨gb242, 0, none⟩ = some (.int .i64 a0_0) := (blk_cell BK242.out 0).trans rfl; have hcz8_1 : w6.cell? ⟨gb242, 1, none⟩ = some (.int .i64 a0_1) := (blk_cell BK242.out 1).trans rfl; have hcz8_2 : w6.cell? ⟨gb242, 2, none⟩ = some (.slice A0_2 l0_2.length c0_2) := (blk_cell BK242.out 2).trans rfl; have hfz8_0 := blk_frozen BK242.out 0; have hfz8_1 := blk_frozen BK242.out 1; have hfz8_2 := blk_frozen BK242.out 2; have hcz9_0 : w6.cell? ⟨gb243, 0, none⟩ = some (.int .i64 a1_0) := (blk_cell BK243.out 0).trans rfl; have hcz9_1 : w6.cell? ⟨gb243, 1, none⟩ = some (.int .i64 a1_1) := (blk_cell BK243.out 1).trans rfl; have hcz9_2 : w6.cell? ⟨gb243, 2, none⟩ = some (.slice A1_2 l1_2.length c1_2) := (blk_cell BK243.out 2).trans rfl; have hfz9_0 := blk_frozen BK243.out 0; have hfz9_1 := blk_frozen BK243.out 1; have hfz9_2 := blk_frozen BK243.out 2) | ((with_reducible refine gate_callee (f := 111) rfl ?_); refine goesL_ (some 9) rfl rfl Try.func111 (by kernel_rfl) rfl #[.slice A0_2 l0_2.length c0_2, .slice A1_2 l1_2.length c1_2] rfl (by (try simp only [List.map_toArray, List.map_cons, List.map_nil]); first | done | rfl | (simp only [List.length_drop, List.length_take]; rfl)) ?_; (with_reducible refine (attr_Same.calls k _ _ l0_2 _ _ l1_2 true _ ?side1 ?side2 ?side3 ?side4 A3.out).mono ?_); (case side1 => repeat (first | exact (Kd.C_below HR0_2.out HB.out) | (with_reducible refine Kd.C_alloc ?_ _) | (with_reducible refine Kd.C_drewN ?_ _) | (with_reducible refine Kd.C_drew ?_))); (case side2 => exact HC0_2.out); (case side3 => repeat (first | exact (Kd.C_below HR1_2.out HB.out) | (with_reducible refine Kd.C_alloc ?_ _) | (with_reducible refine Kd.C_drewN ?_ _) | (with_reducible refine Kd.C_drew ?_))); (case side4 => exact HC1_2.out); rintro e w' ⟨rfl, ⟨nd, rfl⟩⟩; refine ⟨_, rfl, ?_⟩))
  go_ret
  exact ⟨by first | rfl | (simp [errW_none, errW_some] <;> rfl) | (simp [*, errW_none, errW_some] <;> rfl), by repeat (first | (with_reducible first | exact HB.out | apply below_alloc | apply pw_below_drewN | apply below_drew1 | refine below_set ?_ GE242.out | refine below_set ?_ GE243.out) | exact HB.out)⟩
 ·replace c4 := Bool.eq_false_iff.mpr c4
  subst c4
  have H1 : (some 1) = some r := by rw [if_neg (show ¬ (false = true) by decide)] at H; exact H
  clear H
  have H := H1
  clear H1
  obtain rfl := Option.some.inj H
  go_enter Try.func117, Try.ntmps117
  go_wp2_with (first | ((with_reducible refine gate_dst (N := 2) rfl ?_); refine box_event ?hg (N := 2) ?hd (cs := #[.int .i64 a0_0, .int .i64 a0_1, .slice A0_2 l0_2.length c0_2]) (t := 84) ?hr ?_; (case hd => rfl); (case hg => rfl); (case hr => first | (go_simp; done) | (go_simp; rfl)); intro gb242 hg w10 hbox hb; have n0_ := Aside0.mk (below_step (by with_reducible repeat first | exact HB.out | apply below_alloc | apply pw_below_drewN | apply below_drew1) hb); have n1_ := Aside0.mk (hbox); have n2_ := Aside0.mk ((by rw [hg]; exact (below_size (by with_reducible repeat first | exact HB.out | apply below_alloc | apply pw_below_drewN | apply below_drew1)) : w.heap.size ≤ gb242)); have n3_ := Aside0.mk ((by rw [hg]; exact (below_size (by with_reducible repeat first | exact HB.out | apply below_alloc | apply pw_below_drewN | apply below_drew1)) : w.heap.size ≤ gb242)); clear HB; have HB := n0_; have BK242 := n1_; have GW242 := n2_; have GE242 := n3_; clear n0_ n1_ n2_ n3_; clear hb hbox hg) | ((with_reducible refine gate_dst (N := 3) rfl ?_); refine box_event ?hg (N := 3) ?hd (cs := #[.int .i64 a1_0, .int .i64 a1_1, .slice A1_2 l1_2.length c1_2]) (t := 84) ?hr ?_; (case hd => rfl); (case hg => rfl); (case hr => first | (go_simp; done) | (go_simp; rfl)); intro gb243 hg w11 hbox hb; have n0_ := Aside0.mk (blk_below (g := gb242) (o := .cells #[.int .i64 a0_0, .int .i64 a0_1, .slice A0_2 l0_2.length c0_2] 84 (0, 0)) (by (with_reducible repeat (first | refine blk_drewN ?_ _ | refine blk_drew ?_ | refine blk_alloc ?_ _)); exact BK242.out) hb); have n1_ := Aside0.mk (below_step (by repeat (first | (with_reducible first | exact HB.out | apply below_alloc | apply pw_below_drewN | apply below_drew1 | refine below_set ?_ GE242.out) | exact HB.out)) hb); have n2_ := Aside0.mk (hbox); have n3_ := Aside0.mk ((by rw [hg]; exact (below_size (by repeat (first | (with_reducible first | exact HB.out | apply below_alloc | apply pw_below_drewN | apply below_drew1 | refine below_set ?_ GE242.out) | exact HB.out))) : w.heap.size ≤ gb243)); have n4_ := Aside0.mk ((by rw [hg]; exact (below_size (by repeat (first | (with_reducible first | exact HB.out | apply below_alloc | apply pw_below_drewN | apply below_drew1 | refine below_set ?_ GE242.out) | exact HB.out))) : w.heap.size ≤ gb243)); have n5_ := Aside0.mk ((by rw [hg]; exact Nat.ne_of_lt (blk_lt (g := gb242) (o := .cells #[.int .i64 a0_0, .int .i64 a0_1, .slice A0_2 l0_2.length c0_2] 84 (0, 0)) (by (with_reducible repeat (first | refine blk_drewN ?_ _ | refine blk_drew ?_ | refine blk_alloc ?_ _)); exact BK242.out)) : gb242 ≠ gb243)); have n6_ := Aside0.mk ((by rw [hg]; exact Nat.ne_of_gt (blk_lt (g := gb242) (o := .cells #[.int .i64 a0_0, .int .i64 a0_1, .slice A0_2 l0_2.length c0_2] 84 (0, 0)) (by (with_reducible repeat (first | refine blk_drewN ?_ _ | refine blk_drew ?_ | refine blk_alloc ?_ _)); exact BK242.out)) : gb243 ≠ gb242)); clear BK242; clear HB; have BK242 := n0_; have HB := n1_; have BK243 := n2_; have GW243 := n3_; have GE243 := n4_; have NB242_243 := n5_; have NB243_242 := n6_; clear n0_ n1_ n2_ n3_ n4_ n5_ n6_; clear hb hbox hg; have hnb12 := NB242_243.out; have hnc12 := NB243_242.out; have hcz13_0 : w11.cell? ⟨gb242, 0, none⟩ = some (.int .i64 a0_0) := (blk_cell BK242.out 0).trans rfl; have hcz13_1 : w11.cell? ⟨gb242, 1, none⟩ = some (.int .i64 a0_1) := (blk_cell BK242.out 1).trans rfl; have hcz13_2 : w11.cell? ⟨gb242, 2, none⟩ = some (.slice A0_2 l0_2.length c0_2) := (blk_cell BK242.out 2).trans rfl; have hfz13_0 := blk_frozen BK242.out 0; have hfz13_1 := blk_frozen BK242.out 1; have hfz13_2 := blk_frozen BK242.out 2; have hcz14_0 : w11.cell? ⟨gb243, 0, none⟩ = some (.int .i64 a1_0) := (blk_cell BK243.out 0).trans rfl; have hcz14_1 : w11.cell? ⟨gb243, 1, none⟩ = some (.int .i64 a1_1) := (blk_cell BK243.out 1).trans rfl; have hcz14_2 : w11.cell? ⟨gb243, 2, none⟩ = some (.slice A1_2 l1_2.length c1_2) := (blk_cell BK243.out 2).trans rfl; have hfz14_0 := blk_frozen BK243.out 0; have hfz14_1 := blk_frozen BK243.out 1; have hfz14_2 := blk_frozen BK243.out 2) | ((with_reducible refine gate_callee (f := 111) rfl ?_); refine goesL_ (some 9) rfl rfl Try.func111 (by kernel_rfl) rfl #[.slice A0_2 l0_2.length c0_2, .slice A1_2 l1_2.length c1_2] rfl (by (try simp only [List.map_toArray, List.map_cons, List.map_nil]); first | done | rfl | (simp only [List.length_drop, List.length_take]; rfl)) ?_; (with_reducible refine (attr_Same.calls k _ _ l0_2 _ _ l1_2 false _ ?side1 ?side2 ?side3 ?side4 A3.out).mono ?_); (case side1 => repeat (first | exact (Kd.C_below HR0_2.out HB.out) | (with_reducible refine Kd.C_alloc ?_ _) | (with_reducible refine Kd.C_drewN ?_ _) | (with_reducible refine Kd.C_drew ?_))); (case side2 => exact HC0_2.out); (case side3 => repeat (first | exact (Kd.C_below HR1_2.out HB.out) | (with_reducible refine Kd.C_alloc ?_ _) | (with_reducible refine Kd.C_drewN ?_ _) | (with_reducible refine Kd.C_drew ?_))); (case side4 => exact HC1_2.out); rintro e w' ⟨rfl, ⟨nd, rfl⟩⟩; refine ⟨_, rfl, ?_⟩))
  go_ret
  exact ⟨by first | rfl | (simp [errW_none, errW_some] <;> rfl) | (simp [*, errW_none, errW_some] <;> rfl), by repeat (first | (with_reducible first | exact HB.out | apply below_alloc | apply pw_below_drewN | apply below_drew1 | refine below_set ?_ GE242.out | refine below_set ?_ GE243.out) | exact HB.out)⟩
end Go.Proofs.Ytdgemabmmomebaa.PDelta
end

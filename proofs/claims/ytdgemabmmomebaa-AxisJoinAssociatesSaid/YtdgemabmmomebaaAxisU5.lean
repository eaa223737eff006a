/- Three changes of an axis can be joined in either order; where rows are after a change. -/
import Derived.Test.YtdgemabmmomebaaAxisU4
namespace Go.Proofs.Ytdgemabmmomebaa.PAxis
open Go.RowKit Go.Proofs.YtdgemabmmomebaaW.PrintWords Go.Proofs.YtdgemabmmomebaaW.PrintLast Go.Proofs.YtdgemabmmomebaaW.PrintMore
set_option linter.unusedVariables false
set_option linter.unusedSimpArgs false

set_option maxRecDepth 100000 in
theorem axes_ok {k : Nat} (hk : 100 ≤ k) : chancerykeep1_axes.f k = some true := at_rounds chancerykeep1_axes.mono hk (by kernel_rfl : chancerykeep1_axes.f 100 = some true)
theorem act_len : ∀ (u : List Un) (l : List (Option Nat)), bef u = l.length → (act u l).length = aft u
  | [], l, _ => by rw [act_nil]; rfl
  | .a :: u, l, h => by
    rw [bef_a] at h
    rw [act_a, aft_a, List.length_cons, act_len u l h]
  | .k :: u, [], h => by rw [bef_k] at h; simp at h
  | .k :: u, x :: l, h => by
    rw [bef_k] at h
    rw [act_k, aft_k, List.length_cons, act_len u l (by simpa using h)]
  | .c :: u, [], h => by rw [bef_c] at h; simp at h
  | .c :: u, x :: l, h => by
    rw [bef_c] at h
    rw [act_c, aft_c]
    exact act_len u l (by simpa using h)
theorem join_assoc {a b c ab bc one two : List S97} {u1 u2 u3 u4 : List Un} (h1 : JoinR (ex a) (ex b) u1) (h2 : JoinR (ex b) (ex c) u2) (h3 : JoinR (ex ab) (ex c) u3) (h4 : JoinR (ex a) (ex bc) u4)
    (e1 : E (ex ab) u1) (e2 : E (ex bc) u2) (e3 : E (ex one) u3) (e4 : E (ex two) u4) (f1 : Fn (-1) one) (f2 : Fn (-1) two) : one = two := by
  have b1 : bef (ex one) = bef (ex a) := by rw [e3.bef, h3.counts.1, e1.bef, h1.counts.1]
  have b2 : bef (ex two) = bef (ex a) := by rw [e4.bef, h4.counts.1]
  refine same_steps f1 f2 (by rw [b1, b2]) ?_
  have hr : bef (ex a) = (rows (bef (ex a))).length := (rows_len _).symm
  rw [b1, e3.act_, e4.act_, ← h3.acts _ (by rw [rows_len, e1.bef, h1.counts.1]), ← h4.acts _ hr, e1.act_, e2.act_, ← h1.acts _ hr, h2.acts _ (by rw [act_len _ _ hr, h1.counts.2.2.1])]

/-- Where a row is. -/
def placeS : List S97 → Int → Int → Int → Int
  | [], _, _, _ => -1
  | s :: l, f, t, p => if s.f0 = 1 then placeS l f (t + s.f1) p else if s.f0 = 0 then (if p < f + s.f1 then t + p - f else placeS l (f + s.f1) (t + s.f1) p) else if p < f + s.f1 then -1 else placeS l (f + s.f1) t p
def gapT (s : S97) (f t p : Int) (r : Bool) : Int := if s.f0 = 1 ∧ (f < p ∨ f = p ∧ r = true) then t + s.f1 else if s.f0 = 0 then t + (if (if 0 < p - f then p - f else 0) < s.f1 then (if 0 < p - f then p - f else 0) else s.f1) else t
/-- Where the place ahead of a row is. -/
def gapS : List S97 → Int → Int → Int → Bool → Int
  | [], _, t, _, _ => t
  | s :: l, f, t, p, r => gapS l (if s.f0 = 1 then f else f + s.f1) (gapT s f t p r) p r
/-- Steps with the given kinds, none empty. -/
def Pos (l : List S97) : Prop := ∀ s, s ∈ l → K3 s.f0 ∧ 1 ≤ s.f1
theorem Fn.pos : ∀ {p : Int} {l : List S97}, Fn p l → Pos l
  | p, [], _, s, h => by cases h
  | p, x :: l, h, s, hs => by
    rcases List.mem_cons.1 hs with rfl | hs
    · exact ⟨h.1, h.2.1⟩
    · exact (Fn.pos h.2.2.2.2) s hs
theorem Pos.head {s : S97} {l : List S97} (h : Pos (s :: l)) : K3 s.f0 ∧ 1 ≤ s.f1 := h s (List.mem_cons_self ..)
theorem Pos.tail {s : S97} {l : List S97} (h : Pos (s :: l)) : Pos l := fun x hx => h x (List.mem_cons_of_mem _ hx)
theorem gapT_up (s : S97) (f t p : Int) (r : Bool) (h : 1 ≤ s.f1) : t ≤ gapT s f t p r := by
  unfold gapT
  repeat' split
  all_goals omega
theorem gapS_up : ∀ (l : List S97) (f t p : Int) (r : Bool), Pos l → t ≤ gapS l f t p r
  | [], f, t, p, r, _ => Int.le_refl _
  | s :: l, f, t, p, r, h => Int.le_trans (gapT_up s f t p r h.head.2) (gapS_up l _ _ p r h.tail)
theorem gapS_over : ∀ (l : List S97) (f t p : Int) (r : Bool), Pos l → p < f → gapS l f t p r = t
  | [], f, t, p, r, _, _ => rfl
  | s :: l, f, t, p, r, h, hp => by
    have h1 := h.head
    have : gapT s f t p r = t := by
      unfold gapT
      rw [if_neg (by omega)]
      repeat' split
      all_goals omega
    rw [gapS, this]
    refine gapS_over l _ t p r h.tail ?_
    split <;> omega
theorem gapS_right : ∀ (l : List S97) (f t t' p : Int), Pos l → t ≤ t' → gapS l f t p false ≤ gapS l f t' p true
  | [], f, t, t', p, _, h => h
  | s :: l, f, t, t', p, h, ht => by
    rw [gapS, gapS]
    refine gapS_right l _ _ _ p h.tail ?_
    have h1 := h.head
    unfold gapT
    simp only [Bool.false_eq_true, and_false, or_false, and_true]
    repeat' split
    all_goals omega
theorem place_gap : ∀ (l : List S97) (f t p x : Int), Pos l → f ≤ p → 0 ≤ t → placeS l f t p = x → 0 ≤ x → gapS l f t p true ≤ x
  | [], f, t, p, x, _, _, _, hx, h0 => by rw [placeS] at hx; omega
  | s :: l, f, t, p, x, h, hp, ht, hx, h0 => by
    obtain ⟨hk, h1⟩ := h.head
    rw [placeS] at hx
    rw [gapS]
    by_cases c1 : s.f0 = 1
    · rw [if_pos c1] at hx
      have : gapT s f t p true = t + s.f1 := by
        unfold gapT
        rw [if_pos ⟨c1, by simp only [and_true]; omega⟩]
      rw [this, if_pos c1]
      exact place_gap l f _ p x h.tail hp (by omega) hx h0
    rw [if_neg c1] at hx
    rw [if_neg c1]
    by_cases c0 : s.f0 = 0
    · rw [if_pos c0] at hx
      by_cases c : p < f + s.f1
      · rw [if_pos c] at hx
        rw [gapS_over l _ _ p true h.tail c]
        unfold gapT
        rw [if_neg (by omega), if_pos c0]
        repeat' split
        all_goals omega
      · rw [if_neg c] at hx
        have : gapT s f t p true = t + s.f1 := by
          unfold gapT
          rw [if_neg (by omega), if_pos c0]
          repeat' split
          all_goals omega
        rw [this]
        exact place_gap l _ _ p x h.tail (by omega) (by omega) hx h0
    · rw [if_neg c0] at hx
      have : gapT s f t p true = t := by
        unfold gapT
        rw [if_neg (by omega), if_neg c0]
      rw [this]
      by_cases c : p < f + s.f1
      · rw [if_pos c] at hx
        omega
      · rw [if_neg c] at hx
        exact place_gap l _ _ p x h.tail (by omega) ht hx h0
theorem place_before : ∀ (l : List S97) (f t q p x : Int), Pos l → f ≤ q → q < p → 0 ≤ t → placeS l f t q = x → 0 ≤ x → x < gapS l f t p false
  | [], f, t, q, p, x, _, _, _, _, hx, h0 => by rw [placeS] at hx; omega
  | s :: l, f, t, q, p, x, h, hq, hqp, ht, hx, h0 => by
    obtain ⟨hk, h1⟩ := h.head
    rw [placeS] at hx
    rw [gapS]
    by_cases c1 : s.f0 = 1
    · rw [if_pos c1] at hx
      have : gapT s f t p false = t + s.f1 := by
        unfold gapT
        rw [if_pos ⟨c1, by omega⟩]
      rw [this, if_pos c1]
      exact place_before l f _ q p x h.tail hq hqp (by omega) hx h0
    rw [if_neg c1] at hx
    rw [if_neg c1]
    by_cases c0 : s.f0 = 0
    · rw [if_pos c0] at hx
      by_cases c : q < f + s.f1
      · rw [if_pos c] at hx
        refine Int.lt_of_lt_of_le ?_ (gapS_up l _ _ p false h.tail)
        unfold gapT
        rw [if_neg (by omega), if_pos c0]
        repeat' split
        all_goals omega
      · rw [if_neg c] at hx
        have : gapT s f t p false = t + s.f1 := by
          unfold gapT
          rw [if_neg (by omega), if_pos c0]
          repeat' split
          all_goals omega
        rw [this]
        exact place_before l _ _ q p x h.tail (by omega) hqp (by omega) hx h0
    · rw [if_neg c0] at hx
      have : gapT s f t p false = t := by
        unfold gapT
        rw [if_neg (by omega), if_neg c0]
      rw [this]
      by_cases c : q < f + s.f1
      · rw [if_pos c] at hx
        omega
      · rw [if_neg c] at hx
        exact place_before l _ _ q p x h.tail (by omega) hqp ht hx h0

def mx2 (a b : Int) : Int := if a < b then b else a
/-- The range from the first tz the last kept row. -/
def hullS : List S97 → Int → Int → Int → Int → Int → Int → Int × Int
  | [], _, _, _, _, first, last => (first, last)
  | s :: l, fr, tz, old, now, first, last =>
    hullS l fr tz (if s.f0 = 1 then old else old + s.f1) (if s.f0 = 2 then now else now + s.f1)
      (if s.f0 = 0 ∧ mx2 fr old < mn tz (old + s.f1) then (if last = 0 then now + mx2 fr old - old else first) else first)
      (if s.f0 = 0 ∧ mx2 fr old < mn tz (old + s.f1) then now + mn tz (old + s.f1) - old else last)
theorem hull_keeps : ∀ (l : List S97) (fr tz old now first last : Int), Pos l → 0 ≤ old → 0 ≤ now → 0 ≤ last → last ≤ now → (hullS l fr tz old now first last).2 ≥ last ∧ (last ≠ 0 → (hullS l fr tz old now first last).1 = first)
  | [], fr, tz, old, now, first, last, _, _, _, _, _ => ⟨Int.le_refl _, fun _ => rfl⟩
  | s :: l, fr, tz, old, now, first, last, h, ho, hn, hl, hln => by
    obtain ⟨hk, h1⟩ := h.head
    rw [hullS]
    by_cases c : s.f0 = 0 ∧ mx2 fr old < mn tz (old + s.f1)
    · rw [if_pos c, if_pos c, if_neg (by omega), if_neg (by omega)]
      obtain ⟨c0, c⟩ := c
      have ha : old ≤ mx2 fr old := by unfold mx2; split <;> omega
      have hb := (mn_le tz (old + s.f1)).2.1
      obtain ⟨a1, a2⟩ := hull_keeps l fr tz (old + s.f1) (now + s.f1) (if last = 0 then now + mx2 fr old - old else first) (now + mn tz (old + s.f1) - old) h.tail (by omega) (by omega) (by omega) (by omega)
      refine ⟨by omega, fun e => ?_⟩
      rw [a2 (by omega), if_neg e]
    · rw [if_neg c, if_neg c]
      exact hull_keeps l fr tz _ _ first last h.tail (by split <;> omega) (by split <;> omega) hl (by split <;> omega)
theorem hull_has : ∀ (l : List S97) (fr tz old now first last p x : Int), Pos l → 0 ≤ old → 0 ≤ now → 0 ≤ last → last ≤ now → (last ≠ 0 → first ≤ now) → fr ≤ p → p < tz → old ≤ p → placeS l old now p = x → 0 ≤ x →
    (hullS l fr tz old now first last).1 ≤ x ∧ x < (hullS l fr tz old now first last).2
  | [], fr, tz, old, now, first, last, p, x, _, _, _, _, _, _, _, _, _, hx, h0 => by rw [placeS] at hx; omega
  | s :: l, fr, tz, old, now, first, last, p, x, h, ho, hn, hl, hln, hf, hp1, hp2, hp3, hx, h0 => by
    obtain ⟨hk, h1⟩ := h.head
    have ha : old ≤ mx2 fr old ∧ (mx2 fr old = fr ∨ mx2 fr old = old) := by unfold mx2; split <;> omega
    have hb := mn_le tz (old + s.f1)
    rw [placeS] at hx
    rw [hullS]
    by_cases c1 : s.f0 = 1
    · rw [if_pos c1] at hx
      have hc : ¬ (s.f0 = 0 ∧ mx2 fr old < mn tz (old + s.f1)) := fun e => by have := e.1; omega
      rw [if_neg hc, if_neg hc, if_pos c1, if_neg (show ¬ s.f0 = 2 by omega)]
      exact hull_has l fr tz old _ first last p x h.tail ho (by omega) hl (by omega) (by omega) hp1 hp2 hp3 hx h0
    rw [if_neg c1] at hx
    by_cases c0 : s.f0 = 0
    · rw [if_pos c0] at hx
      by_cases c : p < old + s.f1
      · rw [if_pos c] at hx
        have hc : s.f0 = 0 ∧ mx2 fr old < mn tz (old + s.f1) := ⟨c0, by omega⟩
        rw [if_pos hc, if_pos hc, if_neg c1, if_neg (by omega)]
        obtain ⟨a1, a2⟩ := hull_keeps l fr tz (old + s.f1) (now + s.f1) (if last = 0 then now + mx2 fr old - old else first) (now + mn tz (old + s.f1) - old) h.tail (by omega) (by omega) (by omega) (by omega)
        refine ⟨?_, by omega⟩
        rw [a2 (by omega)]
        split <;> omega
      · rw [if_neg c] at hx
        by_cases hc : s.f0 = 0 ∧ mx2 fr old < mn tz (old + s.f1)
        · rw [if_pos hc, if_pos hc, if_neg c1, if_neg (by omega)]
          exact hull_has l fr tz _ _ _ _ p x h.tail (by omega) (by omega) (by omega) (by omega) (fun _ => by split <;> omega) hp1 hp2 (by omega) hx h0
        · rw [if_neg hc, if_neg hc, if_neg c1, if_neg (by omega)]
          exact hull_has l fr tz _ _ _ _ p x h.tail (by omega) (by omega) (by omega) (by omega) (by omega) hp1 hp2 (by omega) hx h0
    · rw [if_neg c0] at hx
      have hc : ¬ (s.f0 = 0 ∧ mx2 fr old < mn tz (old + s.f1)) := fun e => c0 e.1
      rw [if_neg hc, if_neg hc, if_neg c1, if_pos (show s.f0 = 2 by rcases hk with e | e | e <;> omega)]
      by_cases c : p < old + s.f1
      · rw [if_pos c] at hx
        omega
      · rw [if_neg c] at hx
        exact hull_has l fr tz _ _ _ _ p x h.tail (by omega) hn hl hln hf hp1 hp2 (by omega) hx h0
theorem place_low : ∀ (l : List S97) (f t p x : Int), Pos l → placeS l f t p = x → f ≤ p → 0 ≤ t → 0 ≤ x → t ≤ x
  | [], f, t, p, x, _, hx, _, _, h0 => by rw [placeS] at hx; omega
  | s :: l, f, t, p, x, h, hx, hp, ht, h0 => by
    obtain ⟨hk, h1⟩ := h.head
    rw [placeS] at hx
    by_cases c1 : s.f0 = 1
    · rw [if_pos c1] at hx
      have := place_low l _ _ p x h.tail hx hp (by omega) h0
      omega
    rw [if_neg c1] at hx
    by_cases c0 : s.f0 = 0
    · rw [if_pos c0] at hx
      by_cases c : p < f + s.f1
      · rw [if_pos c] at hx; omega
      · rw [if_neg c] at hx
        have := place_low l _ _ p x h.tail hx (by omega) (by omega) h0
        omega
    · rw [if_neg c0] at hx
      by_cases c : p < f + s.f1
      · rw [if_pos c] at hx; omega
      · rw [if_neg c] at hx
        exact place_low l _ _ p x h.tail hx (by omega) ht h0
theorem hull_none : ∀ (l : List S97) (fr tz old now : Int), Pos l → 0 ≤ old → 0 ≤ now → (∀ p, fr ≤ p → p < tz → old ≤ p → placeS l old now p < 0) → hullS l fr tz old now 0 0 = (0, 0)
  | [], fr, tz, old, now, _, _, _, _ => rfl
  | s :: l, fr, tz, old, now, h, ho, hn, hall => by
    obtain ⟨hk, h1⟩ := h.head
    have ha : old ≤ mx2 fr old ∧ fr ≤ mx2 fr old := by unfold mx2; split <;> omega
    have hb := mn_le tz (old + s.f1)
    have hc : ¬ (s.f0 = 0 ∧ mx2 fr old < mn tz (old + s.f1)) := by
      rintro ⟨c0, c⟩
      have := hall (mx2 fr old) (by omega) (by omega) (by omega)
      rw [placeS, if_neg (by omega), if_pos c0, if_pos (by omega)] at this
      omega
    rw [hullS, if_neg hc, if_neg hc]
    refine hull_none l fr tz _ _ h.tail (by split <;> omega) (by split <;> omega) (fun p a1 a2 a3 => ?_)
    have hp := hall p a1 a2 (by split at a3 <;> omega)
    rw [placeS] at hp
    rcases hk with e | e | e
    · rw [e, if_neg (by decide), if_pos rfl] at hp
      simp only [e] at a3 ⊢
      rw [if_neg (by decide)] at a3
      rw [if_neg (by omega)] at hp
      simpa using hp
    · rw [if_pos e] at hp
      rw [if_pos e, if_neg (by omega)]
      exact hp
    · rw [e, if_neg (by decide), if_neg (by decide)] at hp
      simp only [e] at a3 ⊢
      rw [if_neg (by decide)] at a3
      rw [if_neg (by omega)] at hp
      simpa using hp
end Go.Proofs.Ytdgemabmmomebaa.PAxis

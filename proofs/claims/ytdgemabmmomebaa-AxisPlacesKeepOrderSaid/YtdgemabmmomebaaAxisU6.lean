/- Where rows are after a change, as the program tells it. -/
import Derived.Test.YtdgemabmmomebaaAxisU5
import Derived.Test.YtdgemabmmomebaaPAxisx9
namespace Go.Proofs.Ytdgemabmmomebaa.PAxis
open Go.RowKit Go.Proofs.YtdgemabmmomebaaW.PrintWords Go.Proofs.YtdgemabmmomebaaW.PrintLast Go.Proofs.YtdgemabmmomebaaW.PrintMore
set_option linter.unusedVariables false
set_option linter.unusedSimpArgs false

theorem mx_is (a b : Int) : Go.Proofs.YtdgemabmmomebaaW.PrintWords.mx a b = mx2 a b := rfl
theorem mn_is (a b : Int) : Go.Proofs.YtdgemabmmomebaaW.PrintWords.mn a b = mn a b := rfl
/-- What a loop over steps needs at one step. -/
structure At (P R : List S97) (s : S97) : Prop where
  k3 : K3 s.f0
  pos : 1 ≤ s.f1
  lt : (P.length : Int) < ((P ++ s :: R).length : Int)
  next : wrap64 ((P.length : Int) + 1) = (((P ++ [s]).length : Nat) : Int)
  app : P ++ s :: R = (P ++ [s]) ++ R
  sum : (ex P).length + s.f1.toNat ≤ 1000000
  b0 : bef (ex P) ≤ (ex P).length
  a0 : aft (ex P) ≤ (ex P).length
theorem At.of {P R : List S97} {s : S97} (hf : Fn (-1) (P ++ s :: R)) (hs : (ex (P ++ s :: R)).length ≤ 1000000) : At P R s := by
  have hf2 := hf
  rw [Fn.app] at hf2
  obtain ⟨_, hk3, h1, hne, h21, hR⟩ := hf2
  have hl := Fn.len _ _ hf
  refine ⟨hk3, h1, by simp; omega, ?_, by simp, by rw [ex_len_app, ex_len_cons] at hs; omega, bef_len _, aft_len _⟩
  rw [wmid (by omega) (by simp only [List.length_append, List.length_cons] at hl; omega)]
  simp
theorem bef_i (P : List S97) (s : S97) (h : 1 ≤ s.f1) : ((bef (ex (P ++ [s])) : Nat) : Int) = (bef (ex P) : Int) + if (un s.f0).isB then s.f1 else 0 := by
  rw [bef_snoc]
  split <;> omega
theorem aft_i (P : List S97) (s : S97) (h : 1 ≤ s.f1) : ((aft (ex (P ++ [s])) : Nat) : Int) = (aft (ex P) : Int) + if (un s.f0).isA then s.f1 else 0 := by
  rw [aft_snoc]
  split <;> omega

theorem place_l0 : ∀ (R P : List S97) (k : Nat) (p : Int), Fn (-1) (P ++ R) → (ex (P ++ R)).length ≤ 1000000 → 0 ≤ p → p ≤ 1000000 → R.length < k →
    axis_place.l0 k p (bef (ex P) : Nat) (aft (ex P) : Nat) (P ++ R) ((P ++ R).length : Int) (P.length : Int) = some (placeS R (bef (ex P) : Nat) (aft (ex P) : Nat) p)
  | [], P, k, p, hf, hs, hp, hp', hk => by
    obtain ⟨m, rfl⟩ : ∃ m, k = m + 1 := ⟨k - 1, by omega⟩
    rw [List.append_nil, axis_place.l0, if_neg (Int.lt_irrefl _)]
    rfl
  | s :: R, P, k, p, hf, hs, hp, hp', hk => by
    obtain ⟨m, rfl⟩ : ∃ m, k = m + 1 := ⟨k - 1, by omega⟩
    have A := At.of hf hs
    have ih := place_l0 R (P ++ [s]) m p (by rw [← A.app]; exact hf) (by rw [← A.app]; exact hs) hp hp' (by simp only [List.length_cons] at hk; omega)
    rw [← A.app, bef_i P s A.pos, aft_i P s A.pos] at ih
    have h1 := A.pos
    have h2 := A.sum
    have h3 := A.b0
    have h4 := A.a0
    rw [axis_place.l0, if_pos A.lt, if_pos (Int.natCast_nonneg _), if_pos A.lt, rd_mid, A.next]
    obtain ⟨f, hf'⟩ : ∃ f : Int, f = (bef (ex P) : Nat) := ⟨_, rfl⟩
    obtain ⟨t, ht'⟩ : ∃ f : Int, f = (aft (ex P) : Nat) := ⟨_, rfl⟩
    rw [← hf', ← ht'] at ih ⊢
    have e1 : wrap64 (f + s.f1) = f + s.f1 := wmid (by omega) (by omega)
    have e2 : wrap64 (t + s.f1) = t + s.f1 := wmid (by omega) (by omega)
    have e3 : wrap64 (t + p) = t + p := wmid (by omega) (by omega)
    have e4 : wrap64 (t + p - f) = t + p - f := wrap_small (by omega) (by omega)
    rw [e1, e2, e3, e4]
    rcases A.k3 with e | e | e
    · have hS : placeS (s :: R) f t p = if p < f + s.f1 then t + p - f else placeS R (f + s.f1) (t + s.f1) p := by rw [placeS, if_neg (by omega), if_pos e]
      rw [un0 e] at ih
      simp only [Un.isA, Un.isB, ↓reduceIte] at ih
      rw [hS, if_neg (show ¬ s.f0 = 1 by omega), if_pos e, ih]
      split <;> rfl
    · have hS : placeS (s :: R) f t p = placeS R f (t + s.f1) p := by rw [placeS, if_pos e]
      rw [un1 e] at ih
      simp only [Un.isA, Un.isB, ↓reduceIte, Bool.false_eq_true, Int.add_zero] at ih
      rw [hS, if_pos e, ih]
    · have hS : placeS (s :: R) f t p = if p < f + s.f1 then -1 else placeS R (f + s.f1) t p := by rw [placeS, if_neg (by omega), if_neg (by omega)]
      rw [un2 e] at ih
      simp only [Un.isA, Un.isB, ↓reduceIte, Bool.false_eq_true, Int.add_zero] at ih
      rw [hS, if_neg (show ¬ s.f0 = 1 by omega), if_neg (show ¬ s.f0 = 0 by omega), ih]
      split <;> rfl
theorem place_ok {l : List S97} {k : Nat} {p : Int} (hf : Fn (-1) l) (hs : (ex l).length ≤ 1000000) (h0 : 0 ≤ p) (h1 : p ≤ 1000000) (hk : (ex l).length < k) : axis_place.f k l p = some (placeS l 0 0 p) :=
  place_l0 l [] k p hf hs h0 h1 (by have := Fn.len _ _ hf; omega)

theorem gap_l0 : ∀ (R P : List S97) (k : Nat) (p t : Int) (r : Bool), Fn (-1) (P ++ R) → (ex (P ++ R)).length ≤ 1000000 → 0 ≤ p → p ≤ 1000000 → 0 ≤ t → t ≤ (ex P).length → 3 * R.length < k →
    axis_Gap.l0 k p r (bef (ex P) : Nat) t (P ++ R) ((P ++ R).length : Int) (P.length : Int) = some (gapS R (bef (ex P) : Nat) t p r, 0)
  | [], P, k, p, t, r, hf, hs, hp, hp', ht, ht', hk => by
    obtain ⟨m, rfl⟩ : ∃ m, k = m + 1 := ⟨k - 1, by omega⟩
    rw [List.append_nil, axis_Gap.l0, if_neg (Int.lt_irrefl _)]
    rfl
  | s :: R, P, k, p, t, r, hf, hs, hp, hp', ht, ht', hk => by
    obtain ⟨m, rfl⟩ : ∃ m, k = m + 3 := ⟨k - 3, by simp only [List.length_cons] at hk; omega⟩
    have A := At.of hf hs
    have h1 := A.pos
    have h2 := A.sum
    have h3 := A.b0
    have ih := fun t' h h' => gap_l0 R (P ++ [s]) m p t' r (by rw [← A.app]; exact hf) (by rw [← A.app]; exact hs) hp hp' h h' (by simp only [List.length_cons] at hk; omega)
    have hel : (((ex (P ++ [s])).length : Nat) : Int) = (ex P).length + s.f1 := by
      rw [ex_len_app, ex_one, List.length_replicate]
      omega
    rw [← A.app, bef_i P s A.pos, hel] at ih
    rw [axis_Gap.l0, if_pos A.lt, if_pos (Int.natCast_nonneg _), if_pos A.lt, rd_mid]
    obtain ⟨f, hf'⟩ : ∃ f : Int, f = (bef (ex P) : Nat) := ⟨_, rfl⟩
    rw [← hf'] at ih ⊢
    have e1 : wrap64 (f + s.f1) = f + s.f1 := wmid (by omega) (by omega)
    have e2 : wrap64 (t + s.f1) = t + s.f1 := wmid (by omega) (by omega)
    have e3 : wrap64 (p - f) = p - f := wrap_small (by omega) (by omega)
    have e0 : gapS (s :: R) f t p r = gapS R (if s.f0 = 1 then f else f + s.f1) (gapT s f t p r) p r := rfl
    rw [e0]
    rcases A.k3 with e | e | e
    · have hm : t ≤ t + mn s.f1 (mx2 0 (p - f)) ∧ t + mn s.f1 (mx2 0 (p - f)) ≤ t + s.f1 := by
        have := mn_le s.f1 (mx2 0 (p - f))
        have : 0 ≤ mx2 0 (p - f) := by unfold mx2; split <;> omega
        omega
      have e4 : wrap64 (t + mn s.f1 (mx2 0 (p - f))) = t + mn s.f1 (mx2 0 (p - f)) := wmid (by omega) (by omega)
      have e5 : gapT s f t p r = t + mn s.f1 (mx2 0 (p - f)) := by
        unfold gapT
        rw [if_neg (by omega), if_pos e]
        rfl
      have ih := ih _ (Int.le_trans ht hm.1) (by omega)
      rw [un0 e] at ih
      simp only [Un.isB, ↓reduceIte] at ih
      rw [e5, if_neg (show ¬ s.f0 = 1 by omega), if_neg (show ¬ s.f0 = 1 by omega), axis_Gap.j2, if_neg Bool.false_ne_true, if_neg (show ¬ s.f0 = 1 by omega), axis_Gap.j3, if_neg Bool.false_ne_true, if_pos e, if_neg (show ¬ s.f0 = 1 by omega), A.next, e3, e1]
      rw [show wrap64 (t + mn s.f1 (Go.Proofs.YtdgemabmmomebaaW.PrintWords.mx 0 (p - f))) = t + mn s.f1 (mx2 0 (p - f)) from e4]
      exact ih
    · rw [un1 e] at ih
      simp only [Un.isB, ↓reduceIte, Bool.false_eq_true, Int.add_zero] at ih
      rw [if_pos e, if_pos e, axis_Gap.j2, if_pos e]
      by_cases c : f < p
      · have e5 : gapT s f t p r = t + s.f1 := by
          unfold gapT
          rw [if_pos ⟨e, .inl c⟩]
        rw [e5, decide_eq_true c, if_pos rfl, axis_Gap.j3, if_pos rfl, if_pos e, A.next, e2]
        exact ih _ (by omega) (by omega)
      · rw [decide_eq_false c, if_neg Bool.false_ne_true]
        by_cases c2 : f = p
        · rw [if_pos c2, axis_Gap.j3]
          cases r with
          | true =>
            have e5 : gapT s f t p true = t + s.f1 := by
              unfold gapT
              rw [if_pos ⟨e, .inr ⟨c2, rfl⟩⟩]
            rw [e5, if_pos rfl, if_pos e, A.next, e2]
            exact ih _ (by omega) (by omega)
          | false =>
            have e5 : gapT s f t p false = t := by
              unfold gapT
              rw [if_neg (by simp; omega), if_neg (by omega)]
            rw [e5, if_neg Bool.false_ne_true, if_neg (show ¬ s.f0 = 0 by omega), if_pos e, A.next]
            exact ih _ ht (by omega)
        · have e5 : gapT s f t p r = t := by
            unfold gapT
            rw [if_neg (by omega), if_neg (by omega)]
          rw [e5, if_neg c2, axis_Gap.j3, if_neg Bool.false_ne_true, if_neg (show ¬ s.f0 = 0 by omega), if_pos e, A.next]
          exact ih _ ht (by omega)
    · have e5 : gapT s f t p r = t := by
        unfold gapT
        rw [if_neg (by omega), if_neg (by omega)]
      rw [un2 e] at ih
      simp only [Un.isB, ↓reduceIte] at ih
      rw [e5, if_neg (show ¬ s.f0 = 1 by omega), if_neg (show ¬ s.f0 = 1 by omega), axis_Gap.j2, if_neg Bool.false_ne_true, if_neg (show ¬ s.f0 = 1 by omega), axis_Gap.j3, if_neg Bool.false_ne_true, if_neg (show ¬ s.f0 = 0 by omega), if_neg (show ¬ s.f0 = 1 by omega), A.next, e1]
      exact ih _ ht (by omega)
theorem gap_ok {l : List S97} {k : Nat} {p : Int} {r : Bool} (hf : Fn (-1) l) (hs : (ex l).length ≤ 1000000) (h0 : 0 ≤ p) (h1 : p ≤ bef (ex l)) (hk : 4 * (ex l).length + 2 ≤ k) : axis_Gap.f k l p r = some (gapS l 0 0 p r, 0) := by
  have h2 := bef_len (ex l)
  have h3 := Fn.len _ _ hf
  obtain ⟨m, rfl⟩ : ∃ m, k = m + 1 := ⟨k - 1, by omega⟩
  rw [axis_Gap.f, check_ok hf (by omega) (by omega), Option.bind_some, if_pos rfl, lengths_ok hf (by omega) (by omega), Option.bind_some, if_neg (by omega), axis_Gap.j0, if_neg (by simp; omega)]
  exact gap_l0 l [] m p 0 r hf hs h0 (by omega) (Int.le_refl _) (Int.le_refl _) (by omega)

theorem hull_l0 : ∀ (R P : List S97) (k : Nat) (fr tz first last : Int), Fn (-1) (P ++ R) → (ex (P ++ R)).length ≤ 1000000 → 0 ≤ fr → fr ≤ 1000000 → 0 ≤ tz → tz ≤ 1000000 → 3 * R.length < k →
    axis_Hull.l0 k fr tz first last (bef (ex P) : Nat) (aft (ex P) : Nat) (P ++ R) ((P ++ R).length : Int) (P.length : Int) = some (hullS R fr tz (bef (ex P) : Nat) (aft (ex P) : Nat) first last)
  | [], P, k, fr, tz, first, last, hf, hs, a1, a2, a3, a4, hk => by
    obtain ⟨m, rfl⟩ : ∃ m, k = m + 1 := ⟨k - 1, by omega⟩
    rw [List.append_nil, axis_Hull.l0, if_neg (Int.lt_irrefl _)]
    rfl
  | s :: R, P, k, fr, tz, first, last, hf, hs, a1, a2, a3, a4, hk => by
    obtain ⟨m, rfl⟩ : ∃ m, k = m + 3 := ⟨k - 3, by simp only [List.length_cons] at hk; omega⟩
    have A := At.of hf hs
    have h1 := A.pos
    have h2 := A.sum
    have h3 := A.b0
    have h4 := A.a0
    have ih := fun first last => hull_l0 R (P ++ [s]) m fr tz first last (by rw [← A.app]; exact hf) (by rw [← A.app]; exact hs) a1 a2 a3 a4 (by simp only [List.length_cons] at hk; omega)
    rw [← A.app, bef_i P s A.pos, aft_i P s A.pos] at ih
    rw [axis_Hull.l0, if_pos A.lt, if_pos (Int.natCast_nonneg _), if_pos A.lt, rd_mid]
    obtain ⟨f, hf'⟩ : ∃ f : Int, f = (bef (ex P) : Nat) := ⟨_, rfl⟩
    obtain ⟨t, ht'⟩ : ∃ f : Int, f = (aft (ex P) : Nat) := ⟨_, rfl⟩
    rw [← hf', ← ht'] at ih ⊢
    have e1 : wrap64 (f + s.f1) = f + s.f1 := wmid (by omega) (by omega)
    have e2 : wrap64 (t + s.f1) = t + s.f1 := wmid (by omega) (by omega)
    rw [e1]
    obtain ⟨lo, hlo⟩ : ∃ x, x = mx2 fr f := ⟨_, rfl⟩
    obtain ⟨hi, hhi⟩ : ∃ x, x = mn tz (f + s.f1) := ⟨_, rfl⟩
    rw [show Go.Proofs.YtdgemabmmomebaaW.PrintWords.mx fr f = lo from hlo.symm, show mn tz (f + s.f1) = hi from hhi.symm]
    have hb := mn_le tz (f + s.f1)
    have ha : mx2 fr f = fr ∨ mx2 fr f = f := by unfold mx2; split <;> omega
    have hlast : hullS (s :: R) fr tz f t first last = hullS R fr tz (if s.f0 = 1 then f else f + s.f1) (if s.f0 = 2 then t else t + s.f1) (if s.f0 = 0 ∧ lo < hi then (if last = 0 then t + lo - f else first) else first) (if s.f0 = 0 ∧ lo < hi then t + hi - f else last) := by rw [hullS, hlo, hhi]
    rw [hlast]
    rw [← hlo] at ha
    rw [← hhi] at hb
    clear hlast hlo hhi
    have e3 : wrap64 (t + lo) = t + lo := wmid (by omega) (by omega)
    have e4 : wrap64 (t + lo - f) = t + lo - f := wrap_small (by omega) (by omega)
    have e5 : wrap64 (t + hi) = t + hi := wmid (by omega) (by omega)
    have e6 : wrap64 (t + hi - f) = t + hi - f := wrap_small (by omega) (by omega)
    rcases A.k3 with e | e | e
    · rw [un0 e] at ih
      simp only [Un.isA, Un.isB, ↓reduceIte] at ih
      rw [if_pos e, if_neg (show ¬ s.f0 = 1 by omega), if_neg (show ¬ s.f0 = 2 by omega)]
      by_cases c : lo < hi
      · have hc : s.f0 = 0 ∧ lo < hi := ⟨e, c⟩
        rw [decide_eq_true c, if_pos hc, if_pos hc, axis_Hull.j1, if_pos rfl, e3, e4, e5, e6]
        by_cases d : last = 0
        · rw [if_pos d, if_pos d, axis_Hull.j2, if_neg (show ¬ s.f0 = 2 by omega), if_neg (show ¬ s.f0 = 1 by omega), e1, e2, A.next]
          exact ih _ _
        · rw [if_neg d, if_neg d, axis_Hull.j2, if_neg (show ¬ s.f0 = 2 by omega), if_neg (show ¬ s.f0 = 1 by omega), e1, e2, A.next]
          exact ih _ _
      · have hc : ¬ (s.f0 = 0 ∧ lo < hi) := fun h => c h.2
        rw [decide_eq_false c, if_neg hc, if_neg hc, axis_Hull.j1, if_neg Bool.false_ne_true, axis_Hull.j2, if_neg (show ¬ s.f0 = 2 by omega), if_neg (show ¬ s.f0 = 1 by omega), e1, e2, A.next]
        exact ih _ _
    · rw [un1 e] at ih
      simp only [Un.isA, Un.isB, ↓reduceIte, Bool.false_eq_true, Int.add_zero] at ih
      have hc : ¬ (s.f0 = 0 ∧ lo < hi) := fun h => by have := h.1; omega
      rw [if_neg (show ¬ s.f0 = 0 by omega), if_pos e, if_neg (show ¬ s.f0 = 2 by omega), if_neg hc, if_neg hc, axis_Hull.j1, if_neg Bool.false_ne_true, axis_Hull.j2, if_neg (show ¬ s.f0 = 2 by omega), if_pos e, e2, A.next]
      exact ih _ _
    · rw [un2 e] at ih
      simp only [Un.isA, Un.isB, ↓reduceIte, Bool.false_eq_true, Int.add_zero] at ih
      have hc : ¬ (s.f0 = 0 ∧ lo < hi) := fun h => by have := h.1; omega
      rw [if_neg (show ¬ s.f0 = 0 by omega), if_neg (show ¬ s.f0 = 1 by omega), if_pos e, if_neg hc, if_neg hc, axis_Hull.j1, if_neg Bool.false_ne_true, axis_Hull.j2, if_pos e, if_neg (show ¬ s.f0 = 1 by omega), e1, A.next]
      exact ih _ _
theorem rest_ok {l : List S97} {k : Nat} {fr tz : Int} (hf : Fn (-1) l) (hs : (ex l).length ≤ 1000000) (h0 : 0 ≤ fr) (h1 : fr ≤ tz) (h2 : tz ≤ bef (ex l)) (hk : 4 * (ex l).length + 2 ≤ k) : axis_Rest.f k l fr tz = some ((hullS l fr tz 0 0 0 0).1, (hullS l fr tz 0 0 0 0).2, 0) := by
  have h3 := bef_len (ex l)
  have h4 := Fn.len _ _ hf
  rw [axis_Rest.f, check_ok hf (by omega) (by omega), Option.bind_some, if_pos rfl, lengths_ok hf (by omega) (by omega), Option.bind_some, if_neg (by omega), if_neg (by omega), if_neg (by omega)]
  rw [show axis_Hull.f k l fr tz = some (hullS l fr tz 0 0 0 0) from hull_l0 l [] k fr tz 0 0 hf hs h0 (by omega) (by omega) (by omega) (by omega)]
  rfl

end Go.Proofs.Ytdgemabmmomebaa.PAxis

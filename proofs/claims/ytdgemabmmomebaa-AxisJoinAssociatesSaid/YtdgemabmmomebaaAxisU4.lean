/- Check, lengths, Join, Pair, Undo and fitting of an axis, as units. -/
import Derived.Test.YtdgemabmmomebaaAxisU3
import Derived.Test.YtdgemabmmomebaaAxisPlugF
import Derived.Test.YtdgemabmmomebaaAxisPlugR
import Derived.Test.YtdgemabmmomebaaAxisPlugU
import Derived.Test.YtdgemabmmomebaaPAxisx4
import Derived.Test.YtdgemabmmomebaaPAxisx6
namespace Go.Proofs.Ytdgemabmmomebaa.PAxis
open Go.RowKit Go.Proofs.YtdgemabmmomebaaW.PrintWords Go.Proofs.YtdgemabmmomebaaW.PrintLast Go.Proofs.YtdgemabmmomebaaW.PrintMore
set_option linter.unusedVariables false
set_option linter.unusedSimpArgs false

theorem rd_mid (P R : List S97) (s : S97) : rd_T97 (P ++ s :: R) (P.length : Int) = s := by
  simp [rd_T97, List.getD_eq_getElem?_getD]
theorem rd_before (Q R : List S97) (t : S97) : rd_T97 (Q ++ [t] ++ R) ((Q.length : Int)) = t := by
  rw [List.append_assoc]
  exact rd_mid Q R t
theorem ex_len_app (P R : List S97) : (ex (P ++ R)).length = (ex P).length + (ex R).length := by rw [ex_app, List.length_append]
theorem ex_len_cons (s : S97) (R : List S97) : (ex (s :: R)).length = s.f1.toNat + (ex R).length := by rw [ex_cons, List.length_append, List.length_replicate]
theorem bef_snoc (P : List S97) (s : S97) : bef (ex (P ++ [s])) = bef (ex P) + if (un s.f0).isB then s.f1.toNat else 0 := by rw [ex_app, ex_one, bef_app, bef_rep]
theorem aft_snoc (P : List S97) (s : S97) : aft (ex (P ++ [s])) = aft (ex P) + if (un s.f0).isA then s.f1.toNat else 0 := by rw [ex_app, ex_one, aft_app, aft_rep]
theorem wmid {i : Int} (h0 : 0 ≤ i) (h : i ≤ 4611686018427387904) : wrap64 i = i := by unfold wrap64; omega
theorem mn_left {x : Int} (h : x ≤ 2147483647) : Go.Proofs.YtdgemabmmomebaaW.PrintWords.mn x 2147483648 = x := by
  unfold Go.Proofs.YtdgemabmmomebaaW.PrintWords.mn
  rw [if_neg (by omega)]

theorem check_l0 : ∀ (R P : List S97) (k : Nat), Fn (-1) (P ++ R) → (ex (P ++ R)).length ≤ 2147483647 → 4 * R.length < k →
    axis_Check.l0 k (P ++ R) (bef (ex P) : Nat) (aft (ex P) : Nat) (P ++ R) ((P ++ R).length : Int) (P.length : Int) = some 0
  | [], P, k, hf, hs, hk => by
    obtain ⟨m, rfl⟩ : ∃ m, k = m + 1 := ⟨k - 1, by omega⟩
    have h1 := bef_len (ex P)
    have h2 := aft_len (ex P)
    rw [List.append_nil] at hs ⊢
    rw [axis_Check.l0, if_neg (by omega), if_neg (by omega), if_neg (by omega)]
  | s :: R, P, k, hf, hs, hk => by
    obtain ⟨m, rfl⟩ : ∃ m, k = m + 4 := ⟨k - 4, by simp only [List.length_cons] at hk; omega⟩
    have hf2 := hf
    rw [Fn.app] at hf2
    obtain ⟨_, hk3, h1, hne, h21, hR⟩ := hf2
    have hl := Fn.len _ _ hf
    have e : P ++ s :: R = (P ++ [s]) ++ R := by simp
    have hb := bef_len (ex (P ++ [s]))
    have ha := aft_len (ex (P ++ [s]))
    have hx : (ex (P ++ [s])).length ≤ (ex (P ++ s :: R)).length := by have := ex_len_app (P ++ [s]) R; rw [← e] at this; omega
    have ih := check_l0 R (P ++ [s]) m (by rw [← e]; exact hf) (by rw [← e]; exact hs) (by simp only [List.length_cons] at hk; omega)
    rw [← e] at ih
    have hn : (((P ++ [s]).length : Nat) : Int) = (P.length : Int) + 1 := by simp
    rw [hn] at ih
    have hmx := ex_mem_le (l := P ++ s :: R) (s := s) (by simp)
    have hJ3 : axis_Check.j3 (m + 1) (P ++ s :: R) (bef (ex P) : Nat) (aft (ex P) : Nat) (P ++ s :: R) ((P ++ s :: R).length : Int) (P.length : Int) s.f0 s.f1 = some 0 := by
      rw [bef_snoc] at hb ih
      rw [aft_snoc] at ha ih
      have hw1 : wrap64 ((P.length : Int) + 1) = (P.length : Int) + 1 := wmid (by omega) (by simp only [List.length_append, List.length_cons] at hl; omega)
      rw [axis_Check.j3, hw1]
      have hb0 := bef_len (ex P)
      have ha0 := aft_len (ex P)
      have h3 : (ex P).length + s.f1.toNat ≤ 2147483647 := by rw [ex_len_app, ex_len_cons] at hs; omega
      have e1 : wrap64 (((bef (ex P) : Nat) : Int) + s.f1) = ((bef (ex P) : Nat) : Int) + s.f1 := wmid (by omega) (by omega)
      have e2 : wrap64 (((aft (ex P) : Nat) : Int) + s.f1) = ((aft (ex P) : Nat) : Int) + s.f1 := wmid (by omega) (by omega)
      rw [e1, e2, mn_left (by omega), mn_left (by omega)]
      have e3 : ((bef (ex P) : Nat) : Int) + s.f1 = ((bef (ex P) + s.f1.toNat : Nat) : Int) := by omega
      have e4 : ((aft (ex P) : Nat) : Int) + s.f1 = ((aft (ex P) + s.f1.toNat : Nat) : Int) := by omega
      rw [e3, e4]
      rcases hk3 with e | e | e
      · rw [un0 e] at ih
        simp only [Un.isA, Un.isB, ↓reduceIte] at ih
        rw [if_neg (by omega), if_neg (by omega)]
        exact ih
      · rw [un1 e] at ih
        simp only [Un.isA, Un.isB, ↓reduceIte, Bool.false_eq_true, Nat.add_zero] at ih
        rw [if_pos e, if_neg (by omega)]
        exact ih
      · rw [un2 e] at ih
        simp only [Un.isA, Un.isB, ↓reduceIte, Bool.false_eq_true, Nat.add_zero] at ih
        rw [if_neg (by omega), if_pos e]
        exact ih
    have hlt : (P.length : Int) < ((P ++ s :: R).length : Int) := by simp; omega
    rw [axis_Check.l0, if_pos hlt, if_pos (by omega), if_pos hlt, rd_mid]
    rw [if_neg (by rcases hk3 with e | e | e <;> omega)]
    rw [axis_Check.j1, if_neg (by rw [decide_eq_true_iff]; rcases hk3 with e | e | e <;> omega), if_neg (by omega)]
    rw [axis_Check.j2, if_neg (by rw [decide_eq_true_iff]; omega)]
    by_cases hp : (P.length : Int) > 0
    · rcases List.eq_nil_or_concat P with rfl | ⟨Q, t, rfl⟩
      · simp at hp
      · rw [List.concat_eq_append] at *
        have hq : ((Q ++ [t]).length : Int) - 1 = (Q.length : Int) := by simp
        have hw2 : wrap64 (((Q ++ [t]).length : Int) - 1) = (Q.length : Int) := by rw [hq]; exact wmid (by omega) (by simp only [List.length_append, List.length_cons] at hl; omega)
        rw [if_pos hp, hw2, if_pos (by omega), if_pos (by simp only [List.length_append, List.length_cons, List.length_nil]; omega), rd_before Q (s :: R) t]
        rw [lk_app] at hne h21
        have hne' : s.f0 ≠ t.f0 := hne
        have h21' : ¬ (t.f0 = 2 ∧ s.f0 = 1) := h21
        rw [if_neg (by omega)]
        split
        · rw [if_neg (by omega)]
          exact hJ3
        · exact hJ3
    · rw [if_neg hp]
      exact hJ3
theorem check_ok {l : List S97} {k : Nat} (hf : Fn (-1) l) (hs : (ex l).length ≤ 2147483647) (hk : 4 * (ex l).length < k) : axis_Check.f k l = some 0 :=
  check_l0 l [] k hf hs (by have := Fn.len _ _ hf; omega)

theorem lengths_l0 : ∀ (R P : List S97) (k : Nat), Fn (-1) (P ++ R) → (ex (P ++ R)).length ≤ 2147483647 → R.length < k →
    axis_lengths.l0 k (bef (ex P) : Nat) (aft (ex P) : Nat) (P ++ R) ((P ++ R).length : Int) (P.length : Int) = some (((bef (ex (P ++ R)) : Nat) : Int), ((aft (ex (P ++ R)) : Nat) : Int))
  | [], P, k, hf, hs, hk => by
    obtain ⟨m, rfl⟩ : ∃ m, k = m + 1 := ⟨k - 1, by omega⟩
    rw [List.append_nil]
    rw [axis_lengths.l0, if_neg (by omega)]
  | s :: R, P, k, hf, hs, hk => by
    obtain ⟨m, rfl⟩ : ∃ m, k = m + 1 := ⟨k - 1, by omega⟩
    have hf2 := hf
    rw [Fn.app] at hf2
    obtain ⟨_, hk3, h1, hne, h21, hR⟩ := hf2
    have hl := Fn.len _ _ hf
    have e : P ++ s :: R = (P ++ [s]) ++ R := by simp
    have ih := lengths_l0 R (P ++ [s]) m (by rw [← e]; exact hf) (by rw [← e]; exact hs) (by simp only [List.length_cons] at hk; omega)
    rw [← e] at ih
    have hn : (((P ++ [s]).length : Nat) : Int) = (P.length : Int) + 1 := by simp
    rw [hn, bef_snoc, aft_snoc] at ih
    have hw1 : wrap64 ((P.length : Int) + 1) = (P.length : Int) + 1 := wmid (by omega) (by simp only [List.length_append, List.length_cons] at hl; omega)
    have hb0 := bef_len (ex P)
    have ha0 := aft_len (ex P)
    have h3 : (ex P).length + s.f1.toNat ≤ 2147483647 := by rw [ex_len_app, ex_len_cons] at hs; omega
    have e1 : wrap64 (((bef (ex P) : Nat) : Int) + s.f1) = ((bef (ex P) + s.f1.toNat : Nat) : Int) := by rw [wmid (by omega) (by omega)]; omega
    have e2 : wrap64 (((aft (ex P) : Nat) : Int) + s.f1) = ((aft (ex P) + s.f1.toNat : Nat) : Int) := by rw [wmid (by omega) (by omega)]; omega
    have hlt : (P.length : Int) < ((P ++ s :: R).length : Int) := by simp; omega
    rw [axis_lengths.l0, if_pos hlt, if_pos (by omega), if_pos hlt, rd_mid, hw1, e1, e2]
    rcases hk3 with e | e | e
    · rw [un0 e] at ih
      simp only [Un.isA, Un.isB, ↓reduceIte] at ih
      rw [if_neg (by omega), if_neg (by omega)]
      exact ih
    · rw [un1 e] at ih
      simp only [Un.isA, Un.isB, ↓reduceIte, Bool.false_eq_true, Nat.add_zero] at ih
      rw [if_pos e, if_neg (by omega)]
      exact ih
    · rw [un2 e] at ih
      simp only [Un.isA, Un.isB, ↓reduceIte, Bool.false_eq_true, Nat.add_zero] at ih
      rw [if_neg (by omega), if_pos e]
      exact ih
theorem lengths_ok {l : List S97} {k : Nat} (hf : Fn (-1) l) (hs : (ex l).length ≤ 2147483647) (hk : (ex l).length < k) : axis_lengths.f k l = some (((bef (ex l) : Nat) : Int), ((aft (ex l) : Nat) : Int)) :=
  lengths_l0 l [] k hf hs (by have := Fn.len _ _ hf; omega)

theorem done_ok {s : WS} {k : Nat} (h : WFn s) (hs : (exW s).length ≤ 2147483647) (hk : 4 * (exW s).length < k) : ∃ r, doneF k s = some (r, 0) ∧ Fn (-1) r ∧ ex r = exW s := by
  obtain ⟨h1, h2⟩ := flush_ok h
  refine ⟨_, ?_, h1, h2⟩
  rw [doneF, check_ok h1 (by rw [h2]; exact hs) (by rw [h2]; exact hk)]
  rfl

theorem join_ok {a b : List S97} {k : Nat} (ha : Fn (-1) a) (hb : Fn (-1) b) (hl : aft (ex a) = bef (ex b)) (hs : (ex a).length + (ex b).length ≤ 1000000) (hk : 4 * ((ex a).length + (ex b).length) + 1 ≤ k) :
    ∃ r u, joinF k a b = some (r, 0) ∧ Fn (-1) r ∧ JoinR (ex a) (ex b) u ∧ E (ex r) u := by
  obtain ⟨s, u, e1, e2, e3, e4⟩ := joinL_ok k a 0 b 0 ⟨[], 0, 0⟩ (RFn.start ha (by omega)) (RFn.start hb (by omega)) WFn.nil hl (by rw [exW_nil, exR_start, exR_start, List.length_nil]; omega) (by rw [exR_start, exR_start]; omega)
  rw [exW_nil, List.nil_append] at e3
  have hu := e2.counts.2.2.2
  have hsl := e3.len
  rw [exR_start, exR_start] at hu
  have hol := e4.len
  obtain ⟨r, f1, f2, f3⟩ := done_ok (k := k) e4 (by omega) (by omega)
  refine ⟨r, u, ?_, f2, e2, by rw [f3]; exact e3⟩
  rw [joinF, check_ok ha (by omega) (by omega)]
  simp only [Option.bind_some, ne_eq, not_true_eq_false, ↓reduceIte]
  rw [check_ok hb (by omega) (by omega)]
  simp only [Option.bind_some, ne_eq, not_true_eq_false, ↓reduceIte]
  rw [lengths_ok ha (by omega) (by omega), lengths_ok hb (by omega) (by omega)]
  simp only [Option.bind_some, ne_eq]
  rw [if_neg (by simp only [Classical.not_not]; omega), e1]
  simp only [Option.bind_some]
  rw [if_neg (by omega)]
  exact f1

theorem pair_ok {a b : List S97} {k : Nat} (ha : Fn (-1) a) (hb : Fn (-1) b) (hl : bef (ex a) = bef (ex b)) (hs : (ex a).length + (ex b).length ≤ 1000000) (hk : 4 * ((ex a).length + (ex b).length) + 1 ≤ k) :
    ∃ x y u v, pairF k a b = some (x, y, 0) ∧ Fn (-1) x ∧ Fn (-1) y ∧ PairR (ex a) (ex b) u v ∧ E (ex x) u ∧ E (ex y) v := by
  obtain ⟨s, t, u, v, e1, e2, e3, e4, e5, e6⟩ := pairL_ok k a 0 b 0 ⟨[], 0, 0⟩ ⟨[], 0, 0⟩ (RFn.start ha (by omega)) (RFn.start hb (by omega)) WFn.nil WFn.nil hl (by rw [exW_nil, exR_start, exR_start, List.length_nil]; omega) (by rw [exW_nil, exR_start, exR_start, List.length_nil]; omega) (by rw [exR_start, exR_start]; omega)
  rw [exW_nil, List.nil_append] at e3 e4
  have hu := e2.counts.2.2.2.2
  rw [exR_start, exR_start] at hu
  have hsl := e3.len
  have htl := e4.len
  have hol := e5.len
  have hol' := e6.len
  obtain ⟨x, f1, f2, f3⟩ := done_ok (k := k) e5 (by omega) (by omega)
  obtain ⟨y, g1, g2, g3⟩ := done_ok (k := k) e6 (by omega) (by omega)
  refine ⟨x, y, u, v, ?_, f2, g2, e2, by rw [f3]; exact e3, by rw [g3]; exact e4⟩
  rw [pairF, check_ok ha (by omega) (by omega)]
  simp only [Option.bind_some, ne_eq, not_true_eq_false, ↓reduceIte]
  rw [check_ok hb (by omega) (by omega)]
  simp only [Option.bind_some, ne_eq, not_true_eq_false, ↓reduceIte]
  rw [lengths_ok ha (by omega) (by omega), lengths_ok hb (by omega) (by omega)]
  simp only [Option.bind_some, ne_eq]
  rw [if_neg (by simp only [Classical.not_not]; omega), e1]
  simp only [Option.bind_some]
  rw [if_neg (by omega), dones, f1, g1]
  rfl

/-- The units of an undone change. -/
def Un.inv : Un → Un
  | .k => .k
  | .a => .c
  | .c => .a
theorem un_inv {k : Int} (h : K3 k) : un (invK k) = (un k).inv := by rcases h with rfl | rfl | rfl <;> rfl
theorem K3.inv {k : Int} (h : K3 k) : K3 (invK k) := by
  rcases h with rfl | rfl | rfl
  · exact .inl rfl
  · exact .inr (.inr rfl)
  · exact .inr (.inl rfl)
theorem undoL_ok : ∀ (l : List S97) (p : Int) (s : WS), Fn p l → WFn s → (exW s).length + (ex l).length ≤ 1000000 → ∃ s', undoL l s = some s' ∧ WFn s' ∧ E (exW s') (exW s ++ (ex l).map Un.inv)
  | [], p, s, _, hs, _ => ⟨s, rfl, hs, by simpa [ex_nil] using E.refl _⟩
  | x :: l, p, s, hl, hs, hz => by
    obtain ⟨hk, h1, _, _, hl'⟩ := hl
    rw [ex_len_cons] at hz
    obtain ⟨hw, hE⟩ := put_ok (kind := invK x.f0) (n := x.f1) hs hk.inv (by omega) (by omega)
    have hwl := hE.len
    simp only [List.length_append, List.length_replicate] at hwl
    obtain ⟨s', e1, e2, e3⟩ := undoL_ok l x.f0 _ hl' hw (by omega)
    refine ⟨s', ?_, e2, e3.trans ?_⟩
    · rw [undoL, if_neg (by have := hs.len; omega), if_pos (show x.f0 = 0 ∨ x.f0 = 1 ∨ x.f0 = 2 from hk)]
      exact e1
    · rw [ex_cons, List.map_append, List.map_replicate, ← un_inv hk, ← List.append_assoc]
      exact hE.app (E.refl _)
theorem undo_ok {a : List S97} {k : Nat} (ha : Fn (-1) a) (hs : (ex a).length ≤ 1000000) (hk : 4 * (ex a).length + 1 ≤ k) : ∃ r, undoF k a = some (r, 0) ∧ Fn (-1) r ∧ E (ex r) ((ex a).map Un.inv) := by
  obtain ⟨s, e1, e2, e3⟩ := undoL_ok a (-1) ⟨[], 0, 0⟩ ha WFn.nil (by rw [exW_nil, List.length_nil]; omega)
  rw [exW_nil, List.nil_append] at e3
  have hsl := e3.len
  rw [List.length_map] at hsl
  have hol := e2.len
  obtain ⟨r, f1, f2, f3⟩ := done_ok (k := k) e2 (by omega) (by omega)
  refine ⟨r, ?_, f2, by rw [f3]; exact e3⟩
  have hal := Fn.len _ _ ha
  rw [undoF, if_neg (by omega), check_ok ha (by omega) (by omega)]
  simp only [Option.bind_some, ne_eq, not_true_eq_false, ↓reduceIte]
  rw [e1]
  simp only [Option.bind_some]
  rw [if_neg (by omega)]
  exact f1
theorem inv_bef (u : List Un) : bef (u.map Un.inv) = aft u := by
  induction u with
  | nil => rfl
  | cons x u ih => cases x <;> simp only [List.map_cons, Un.inv, bef_k, bef_a, bef_c, aft_k, aft_a, aft_c, ih]
theorem inv_aft (u : List Un) : aft (u.map Un.inv) = bef u := by
  induction u with
  | nil => rfl
  | cons x u ih => cases x <;> simp only [List.map_cons, Un.inv, bef_k, bef_a, bef_c, aft_k, aft_a, aft_c, ih]

theorem same_l0 : ∀ (d : Nat) (l : List S97) (k : Nat) (i : Int), 0 ≤ i → (l.length : Int) - i = d → l.length ≤ 1000000 → d < k → chanceryref1_SameSteps.l0 k l l (l.length : Int) i = some true
  | 0, l, k, i, h0, hd, hl, hk => by
    obtain ⟨m, rfl⟩ : ∃ m, k = m + 1 := ⟨k - 1, by omega⟩
    rw [chanceryref1_SameSteps.l0, if_neg (by omega)]
  | d + 1, l, k, i, h0, hd, hl, hk => by
    obtain ⟨m, rfl⟩ : ∃ m, k = m + 1 := ⟨k - 1, by omega⟩
    rw [chanceryref1_SameSteps.l0, if_pos (by omega), if_pos h0, if_pos (by omega), if_pos (by omega), if_neg (by simp), wmid (by omega) (by omega)]
    exact same_l0 d l m (i + 1) (by omega) (by omega) hl (by omega)
theorem same_ok (l : List S97) {k : Nat} (hl : l.length ≤ 1000000) (hk : l.length < k) : chanceryref1_SameSteps.f k l l = some true := by
  rw [chanceryref1_SameSteps.f, if_pos rfl]
  exact same_l0 l.length l k 0 (Int.le_refl _) (by omega) hl hk

theorem within_ok (v lo hi : Int) (h0 : 0 ≤ lo) (h1 : lo ≤ hi) (h2 : hi ≤ 1000) : ∃ r, chanceryref1_Within.f v lo hi = some r ∧ lo ≤ r ∧ r ≤ hi := by
  unfold chanceryref1_Within.f
  rw [show wrap64 (hi - lo) = hi - lo from wmid (by omega) (by omega), show wrap64 (hi - lo + 1) = hi - lo + 1 from wmid (by omega) (by omega), if_neg (by omega)]
  obtain ⟨n, hn⟩ : ∃ n, n = hi - lo + 1 := ⟨_, rfl⟩
  rw [← hn]
  refine ⟨_, rfl, ?_⟩
  have h3 : -n < Int.tmod v n ∧ Int.tmod v n < n := ⟨Int.lt_tmod_of_pos v (by omega), Int.tmod_lt_of_pos v (by omega)⟩
  have h4 : wrap64 (Int.tmod v n + n) = Int.tmod v n + n := wmid (by omega) (by omega)
  rw [h4]
  have h5 : 0 ≤ Int.tmod (Int.tmod v n + n) n := Int.tmod_nonneg _ (by omega)
  have h6 : Int.tmod (Int.tmod v n + n) n < n := Int.tmod_lt_of_pos _ (by omega)
  rw [wmid (by omega) (by omega)]
  omega

theorem roll_ok (raw : List Int) (u : Nat) : ∃ x, rollF raw u 6 = some x ∧ 0 ≤ x ∧ x ≤ 5 := by
  unfold rollF
  split
  · exact ⟨0, rfl, by decide, by decide⟩
  · rw [show wrap64 (6 - 1) = 5 from by unfold wrap64; omega]
    exact within_ok _ 0 5 (Int.le_refl _) (by decide) (by decide)
theorem fitU_ok : ∀ (m : Nat) (raw : List Int) (u : Nat) (acc : List Int), (∀ x, x ∈ acc → K3 x) → ∃ t, fitU m raw u acc = some t ∧ (∀ x, x ∈ t.1 → K3 x) ∧ t.1.length ≤ acc.length + 3 * m ∧ bef (t.1.map un) = bef (acc.map un) + m
  | 0, raw, u, acc, h => ⟨_, rfl, h, by simp, rfl⟩
  | m + 1, raw, u, acc, h => by
    obtain ⟨x, hx, hx0, hx5⟩ := roll_ok raw u
    obtain ⟨y, hy, hy0, hy5⟩ := roll_ok raw (rollU raw u)
    obtain ⟨t, h1, h2, h3, h4⟩ := fitU_ok m raw (rollU raw (rollU raw u)) (acc ++ List.replicate (x - 3).toNat 1 ++ [if y = 0 then 2 else 0]) (by
      intro z hz
      rw [List.mem_append, List.mem_append] at hz
      rcases hz with (hz | hz) | hz
      · exact h z hz
      · exact .inr (.inl (List.eq_of_mem_replicate hz))
      · rw [List.mem_singleton] at hz
        rw [hz]
        split
        · exact .inr (.inr rfl)
        · exact .inl rfl)
    refine ⟨t, ?_, h2, ?_, ?_⟩
    · rw [fitU, hx, Option.bind_some, hy, Option.bind_some]
      exact h1
    · simp only [List.length_append, List.length_replicate, List.length_singleton] at h3
      omega
    · rw [h4, List.map_append, List.map_append, bef_app, bef_app, List.map_replicate]
      have : bef (List.replicate (x - 3).toNat (un 1)) = 0 := bef_rep_a _
      rw [this]
      split
      · show _ + 0 + bef [.c] + m = _
        rw [bef_c, bef_nil]; omega
      · show _ + 0 + bef [.k] + m = _
        rw [bef_k, bef_nil]; omega

/-- A run that takeRun takes. -/
theorem takeRun_ok (k : Bool) : ∀ (l : List Int) (a b c : Nat), (∀ x, x ∈ l → K3 x) → ∃ (p : List Int) (a' b' c' : Nat), takeRun k l a b c = ⟨l.drop p.length, ((a + a' : Nat) : Int), ((b + b' : Nat) : Int), ((c + c' : Nat) : Int)⟩ ∧ l = p ++ l.drop p.length ∧ a' + b' + c' = p.length ∧
    (k = true → p.map un = List.replicate a' .k ∧ b' = 0 ∧ c' = 0) ∧ (k = false → a' = 0 ∧ E (p.map un) (List.replicate b' .a ++ List.replicate c' .c)) ∧ (∀ y r, l.drop p.length = y :: r → ((y == 0) == k) = false)
  | [], a, b, c, h => ⟨[], 0, 0, 0, rfl, rfl, rfl, fun _ => ⟨rfl, rfl, rfl⟩, fun _ => ⟨rfl, E.refl _⟩, fun y r e => by cases e⟩
  | x :: l, a, b, c, h => by
    rw [takeRun]
    by_cases hx : ((x == 0) == k) = true
    · rw [if_pos hx]
      have hl : ∀ y, y ∈ l → K3 y := fun y hy => h y (List.mem_cons_of_mem _ hy)
      rcases h x (List.mem_cons_self ..) with rfl | rfl | rfl
      · have hk : k = true := by simpa using hx
        subst hk
        obtain ⟨p, a', b', c', e1, e2, e3, e4, e5, e6⟩ := takeRun_ok true l (a + 1) b c hl
        obtain ⟨f1, f2, f3⟩ := e4 rfl
        refine ⟨0 :: p, a' + 1, b', c', ?_, ?_, by simp only [List.length_cons]; omega, fun _ => ⟨?_, f2, f3⟩, (fun e => by cases e), e6⟩
        · rw [if_pos rfl, if_neg (by decide), if_neg (by decide)]
          have : takeRun true l ((a : Int) + 1) b c = takeRun true l ((a + 1 : Nat) : Int) b c := rfl
          rw [this, e1]
          simp only [List.length_cons, List.drop_succ_cons, N3.mk.injEq, true_and, and_true]
          omega
        · rw [List.length_cons, List.drop_succ_cons, List.cons_append, ← e2]
        · rw [List.map_cons, f1, List.replicate_succ]
          rfl
      · have hk : k = false := by simpa using hx
        subst hk
        obtain ⟨p, a', b', c', e1, e2, e3, e4, e5, e6⟩ := takeRun_ok false l a (b + 1) c hl
        obtain ⟨f1, f2⟩ := e5 rfl
        refine ⟨1 :: p, a', b' + 1, c', ?_, ?_, by simp only [List.length_cons]; omega, (fun e => by cases e), fun _ => ⟨f1, ?_⟩, e6⟩
        · rw [if_neg (by decide), if_pos rfl, if_neg (by decide)]
          have : takeRun false l a ((b : Int) + 1) c = takeRun false l a ((b + 1 : Nat) : Int) c := rfl
          rw [this, e1]
          simp only [List.length_cons, List.drop_succ_cons, N3.mk.injEq, true_and, and_true]
          omega
        · rw [List.length_cons, List.drop_succ_cons, List.cons_append, ← e2]
        · rw [List.map_cons, List.replicate_succ]
          exact (E.refl [Un.a]).app f2
      · have hk : k = false := by simpa using hx
        subst hk
        obtain ⟨p, a', b', c', e1, e2, e3, e4, e5, e6⟩ := takeRun_ok false l a b (c + 1) hl
        obtain ⟨f1, f2⟩ := e5 rfl
        refine ⟨2 :: p, a', b', c' + 1, ?_, ?_, by simp only [List.length_cons]; omega, (fun e => by cases e), fun _ => ⟨f1, ?_⟩, e6⟩
        · rw [if_neg (by decide), if_neg (by decide), if_pos rfl]
          have : takeRun false l a b ((c : Int) + 1) = takeRun false l a b ((c + 1 : Nat) : Int) := rfl
          rw [this, e1]
          simp only [List.length_cons, List.drop_succ_cons, N3.mk.injEq, true_and, and_true]
          omega
        · rw [List.length_cons, List.drop_succ_cons, List.cons_append, ← e2]
        · rw [List.map_cons]
          have e7 : E ([Un.c] ++ p.map un) ([Un.c] ++ (List.replicate b' .a ++ List.replicate c' .c)) := (E.refl [Un.c]).app f2
          have e8 : E ((List.replicate 1 Un.c ++ List.replicate b' .a) ++ List.replicate c' .c) ((List.replicate b' .a ++ List.replicate 1 Un.c) ++ List.replicate c' .c) := (E.swap b' 1).app (E.refl _)
          rw [List.append_assoc, List.append_assoc] at e8
          refine e7.trans (e8.trans ?_)
          rw [List.replicate_append_replicate, Nat.add_comm]
          exact E.refl _
    · rw [if_neg hx]
      refine ⟨[], 0, 0, 0, rfl, rfl, rfl, fun _ => ⟨rfl, rfl, rfl⟩, fun _ => ⟨rfl, E.refl _⟩, fun y r e => ?_⟩
      simp only [List.length_nil, List.drop_zero, List.cons.injEq] at e
      obtain ⟨rfl, rfl⟩ := e
      simpa using hx
theorem appsL_ex (out : List S97) (l : List Int) (a b c : Int) : ex (appsL out ⟨l, a, b, c⟩) = ex out ++ List.replicate a.toNat .k ++ List.replicate b.toNat .a ++ List.replicate c.toNat .c := by
  rw [appsL, app1_ex, app1_ex, app1_ex]
  rfl
theorem rd_head (x : Int) (l : List Int) : rd (x :: l) 0 = x := by simp [rd]
theorem stepsL_ok : ∀ (m : Nat) (l : List Int) (out : List S97), Fn (-1) out → (∀ x, x ∈ l → K3 x) → (∀ x r, l = x :: r → (x = 0 → lk (-1) out ≠ 0) ∧ (x ≠ 0 → lk (-1) out = -1 ∨ lk (-1) out = 0)) → (ex out).length + l.length ≤ 1000000 → l.length < m →
    ∃ r, stepsL m l out = some r ∧ Fn (-1) r ∧ E (ex r) (ex out ++ l.map un)
  | 0, l, out, _, _, _, _, hm => absurd hm (Nat.not_lt_zero _)
  | m + 1, l, out, hf, hl, hk, hz, hm => by
    rw [stepsL, if_neg (by have := Fn.len _ _ hf; omega)]
    cases l with
    | nil => exact ⟨out, rfl, hf, by simpa using E.refl _⟩
    | cons x l =>
      rw [if_neg (by simp), rd_head]
      obtain ⟨p, a, b, c, e1, e2, e3, e4, e5, e6⟩ := takeRun_ok (x == 0) (x :: l) 0 0 0 hl
      have hp : 0 < p.length := by
        cases p with
        | nil => simpa using e6 x l rfl
        | cons y p => simp
      simp only [Nat.zero_add] at e1
      rw [show takeRun (x == 0) (x :: l) 0 0 0 = takeRun (x == 0) (x :: l) ((0 : Nat) : Int) ((0 : Nat) : Int) ((0 : Nat) : Int) from rfl, e1]
      show ∃ r, stepsL m ((x :: l).drop p.length) (appsL out ⟨(x :: l).drop p.length, (a : Int), (b : Int), (c : Int)⟩) = some r ∧ _
      obtain ⟨q, hq⟩ : ∃ q, q = (x :: l).drop p.length := ⟨_, rfl⟩
      rw [← hq] at e2 e6 ⊢
      have hlen : (x :: l).length = p.length + q.length := by rw [e2, List.length_append]
      have hql : ∀ y, y ∈ q → K3 y := fun y hy => hl y (by rw [e2]; exact List.mem_append_right _ hy)
      obtain ⟨k1, k2⟩ := hk x l rfl
      by_cases hx : x = 0
      · obtain ⟨f1, f2, f3⟩ := e4 (by simpa using hx)
        subst f2 f3
        have ha : 0 < a := by omega
        have hap : appsL out ⟨q, (a : Int), ((0 : Nat) : Int), ((0 : Nat) : Int)⟩ = out ++ [⟨0, (a : Int)⟩] := by
          rw [appsL]
          simp only [app1]
          rw [if_neg (by decide), if_neg (by decide), if_pos (by omega)]
        rw [hap]
        have hE : ex (out ++ [(⟨0, (a : Int)⟩ : S97)]) = ex out ++ p.map un := by rw [ex_app, ex_one, f1]; rfl
        obtain ⟨r, g1, g2, g3⟩ := stepsL_ok m q (out ++ [⟨0, (a : Int)⟩]) (by
            rw [Fn.app]
            exact ⟨hf, .inl rfl, by show 1 ≤ (a : Int); omega, fun e => k1 hx e.symm, fun e => absurd e.2 (by show ¬ ((0 : Int) = 1); decide), trivial⟩) hql (by
            intro y r e
            have := e6 y r e
            rw [lk_app]
            refine ⟨fun e0 => ?_, fun _ => .inr rfl⟩
            rw [e0, hx] at this
            cases this) (by rw [hE, List.length_append, List.length_map]; omega) (by omega)
        refine ⟨r, g1, g2, g3.trans ?_⟩
        rw [hE, e2, List.map_append, List.append_assoc]
        exact E.refl _
      · obtain ⟨f1, f2⟩ := e5 (by simpa using hx)
        subst f1
        have k3 := k2 hx
        have hap : appsL out ⟨q, ((0 : Nat) : Int), (b : Int), (c : Int)⟩ = app1 (app1 out 1 b) 2 c := rfl
        rw [hap]
        have hE : ex (app1 (app1 out 1 b) 2 c) = ex out ++ (List.replicate b .a ++ List.replicate c .c) := by
          rw [app1_ex, app1_ex, List.append_assoc]
          rfl
        have hlk : lk (-1) (app1 (app1 out 1 b) 2 c) = if 0 < (c : Int) then 2 else if 0 < (b : Int) then 1 else lk (-1) out := by rw [app1_lk, app1_lk]
        have hbc : 0 < b + c := by omega
        have hEl := f2.len
        simp only [List.length_map, List.length_append, List.length_replicate] at hEl
        obtain ⟨r, g1, g2, g3⟩ := stepsL_ok m q (app1 (app1 out 1 b) 2 c) (by
            refine app1_fn (app1_fn hf (.inr (.inl rfl)) (by omega) (by omega)) (.inr (.inr rfl)) ?_ (by omega)
            rw [app1_lk]
            split <;> omega) hql (by
            intro y r e
            have := e6 y r e
            rw [hlk]
            refine ⟨fun e0 => ?_, fun e0 => ?_⟩
            · split
              · decide
              · split
                · decide
                · omega
            · rw [show (y == 0) = false by simpa using e0, show (x == 0) = false by simpa using hx] at this
              cases this) (by rw [hE]; simp only [List.length_append, List.length_replicate]; omega) (by omega)
        refine ⟨r, g1, g2, g3.trans ?_⟩
        rw [hE, e2, List.map_append, List.append_assoc]
        exact (E.refl _).app (f2.symm.app (E.refl _))

theorem fitting_ok (n : Int) (raw : List Int) (k : Nat) (h0 : 0 ≤ n) (h1 : n ≤ 1000) (hk : 3 * n.toNat + 4 ≤ k) :
    ∃ r, fittingF k n raw = some r ∧ Fn (-1) r ∧ bef (ex r) = n.toNat ∧ (ex r).length ≤ 3 * n.toNat + 2 := by
  obtain ⟨t, a1, a2, a3, a4⟩ := fitU_ok n.toNat raw 0 [] (fun x hx => by cases hx)
  obtain ⟨x, b1, b2, b3⟩ := roll_ok raw t.2
  simp only [List.length_nil, List.map_nil, bef_nil, Nat.zero_add] at a3 a4
  obtain ⟨r, c1, c2, c3⟩ := stepsL_ok k (t.1 ++ List.replicate (x - 3).toNat 1) [] trivial (by
      intro z hz
      rw [List.mem_append] at hz
      rcases hz with hz | hz
      · exact a2 z hz
      · exact .inr (.inl (List.eq_of_mem_replicate hz))) (fun y r e => ⟨fun _ => by decide, fun _ => .inl rfl⟩) (by
      simp only [ex_nil, List.length_nil, List.length_append, List.length_replicate]; omega) (by simp only [List.length_append, List.length_replicate]; omega)
  rw [ex_nil, List.nil_append, List.map_append, List.map_replicate] at c3
  refine ⟨r, ?_, c2, ?_, ?_⟩
  · rw [fittingF, if_pos (by omega), a1, Option.bind_some, b1, Option.bind_some]
    exact c1
  · rw [c3.bef, bef_app, a4]
    show n.toNat + bef (List.replicate _ Un.a) = _
    rw [bef_rep_a]
    omega
  · rw [c3.len]
    simp only [List.length_append, List.length_map, List.length_replicate]
    omega
end Go.Proofs.Ytdgemabmmomebaa.PAxis

/- Rows that are kept stay in their order, gaps do not pass rows, and ranges contain what is kept of them. -/
import Derived.Test.YtdgemabmmomebaaAxisU6
namespace Go.Proofs.Ytdgemabmmomebaa.PAxis
open Go.RowKit Go.Proofs.YtdgemabmmomebaaW.PrintWords Go.Proofs.YtdgemabmmomebaaW.PrintLast Go.Proofs.YtdgemabmmomebaaW.PrintMore
set_option linter.unusedVariables false
set_option linter.unusedSimpArgs false

/-- The numbers from i on. -/
def seqI : Nat → Nat → List Int
  | _, 0 => []
  | i, d + 1 => (i : Int) :: seqI (i + 1) d
theorem seqI_len : ∀ (d i : Nat), (seqI i d).length = d
  | 0, i => rfl
  | d + 1, i => by rw [seqI, List.length_cons, seqI_len d]
theorem seqI_get : ∀ (d i j : Nat), j < d → (seqI i d).getD j 0 = ((i + j : Nat) : Int)
  | 0, i, j, h => absurd h (Nat.not_lt_zero _)
  | d + 1, i, 0, h => by simp [seqI]
  | d + 1, i, j + 1, h => by
    rw [seqI, List.getD_cons_succ, seqI_get d (i + 1) j (by omega)]
    omega
theorem rd_seq (n i : Nat) (h : i < n) : rd (seqI 0 n) (i : Int) = (i : Int) := by
  show (seqI 0 n).getD (i : Int).toNat 0 = _
  rw [Int.toNat_natCast, seqI_get n 0 i h, Nat.zero_add]
theorem rd_map (f : Int → Int) (n i : Nat) (h : i < n) : rd ((seqI 0 n).map f) (i : Int) = f i := by
  show ((seqI 0 n).map f).getD (i : Int).toNat 0 = _
  rw [Int.toNat_natCast, List.getD_eq_getElem?_getD, List.getElem?_map]
  have h1 := seqI_get n 0 i h
  rw [Nat.zero_add, List.getD_eq_getElem?_getD] at h1
  have h2 : i < (seqI 0 n).length := by rw [seqI_len]; exact h
  rw [List.getElem?_eq_getElem h2] at h1 ⊢
  simp only [Option.getD_some] at h1
  simp only [Option.map_some, Option.getD_some, h1]
theorem apply_l0 {l : List S97} {n : Nat} (hf : Fn (-1) l) (hs : (ex l).length ≤ 1000) (hn : n ≤ 1000) : ∀ (d i k : Nat) (acc : List Int), i + d = n → acc.length ≤ i → d + 2000 < k →
    axis_Apply.l0 k l (n : Int) acc (seqI 0 n) ((seqI 0 n).length : Int) (i : Int) = some (acc ++ (seqI i d).map (placeS l 0 0), 0)
  | 0, i, k, acc, hi, ha, hk => by
    obtain ⟨m, rfl⟩ : ∃ m, k = m + 1 := ⟨k - 1, by omega⟩
    rw [axis_Apply.l0, if_neg (by rw [seqI_len]; omega)]
    simp [seqI]
  | d + 1, i, k, acc, hi, ha, hk => by
    obtain ⟨m, rfl⟩ : ∃ m, k = m + 1 := ⟨k - 1, by omega⟩
    rw [axis_Apply.l0, if_pos (by rw [seqI_len]; omega), if_pos (by omega), if_pos (by rw [seqI_len]; omega), rd_seq n i (by omega), if_neg (by omega), if_neg (by omega), place_ok hf (by omega) (by omega) (by omega) (by omega), Option.bind_some, if_pos (by omega), wmid (by omega) (by omega)]
    have ih := apply_l0 hf hs hn d (i + 1) m (acc ++ [placeS l 0 0 i]) (by omega) (by simp; omega) (by omega)
    rw [show ((i : Int) + 1) = ((i + 1 : Nat) : Int) from by omega, ih, seqI, List.map_cons, List.append_assoc]
    rfl
theorem apply_ok {l : List S97} {n k : Nat} (hf : Fn (-1) l) (hs : (ex l).length ≤ 1000) (hn : bef (ex l) = n) (hn2 : n ≤ 1000) (hk : 10000 ≤ k) : axis_Apply.f k l (seqI 0 n) = some ((seqI 0 n).map (placeS l 0 0), 0) := by
  rw [axis_Apply.f, check_ok hf (by omega) (by omega), Option.bind_some, if_pos rfl, lengths_ok hf (by omega) (by omega), Option.bind_some, hn]
  exact apply_l0 hf hs hn2 n 0 k [] (by omega) (Nat.le_refl _) (by omega)

/-- What the law's loop knows at row i. -/
structure Inv (l : List S97) (fr tz last kept : Int) (i : Nat) : Prop where
  low : -1 ≤ last
  was : last = -1 ∨ ∃ q : Nat, q < i ∧ last = placeS l 0 0 q ∧ 0 ≤ placeS l 0 0 q
  kept0 : 0 ≤ kept ∧ kept ≤ i
  none_ : kept = 0 → ∀ q : Nat, q < i → fr ≤ q → (q : Int) < tz → placeS l 0 0 q < 0
theorem Inv.step {l : List S97} {fr tz last kept last' kept' : Int} {i : Nat} (I : Inv l fr tz last kept i) (h1 : (0 ≤ placeS l 0 0 i ∧ last' = placeS l 0 0 i) ∨ (placeS l 0 0 i < 0 ∧ last' = last))
    (h2 : kept' = kept + 1 ∨ (kept' = kept ∧ ¬ (fr ≤ i ∧ (i : Int) < tz ∧ 0 ≤ placeS l 0 0 i))) : Inv l fr tz last' kept' (i + 1) := by
  have hk := I.kept0
  have hl := I.low
  refine ⟨by omega, ?_, by omega, ?_⟩
  · rcases h1 with ⟨a, e⟩ | ⟨a, e⟩
    · exact .inr ⟨i, by omega, e, a⟩
    · rcases I.was with w | ⟨q, hq, w, h0⟩
      · exact .inl (by omega)
      · exact .inr ⟨q, by omega, by omega, h0⟩
  · intro e q hq a b
    rcases h2 with e2 | ⟨e2, e3⟩
    · omega
    · rcases Nat.lt_or_eq_of_le (Nat.le_of_lt_succ hq) with h | h
      · exact I.none_ (by omega) q h a b
      · subst h
        omega
theorem place_le : ∀ (l : List S97) (f t p : Int), Pos l → f ≤ p → 0 ≤ t → placeS l f t p ≤ t + (ex l).length
  | [], f, t, p, _, _, h => by rw [placeS]; omega
  | s :: l, f, t, p, h, hp, ht => by
    obtain ⟨hk, h1⟩ := h.head
    rw [placeS, ex_len_cons]
    split
    · have := place_le l f (t + s.f1) p h.tail hp (by omega)
      omega
    · split
      · split
        · omega
        · have := place_le l (f + s.f1) (t + s.f1) p h.tail (by omega) (by omega)
          omega
      · split
        · omega
        · have := place_le l (f + s.f1) t p h.tail (by omega) ht
          omega
theorem law_l1 {l : List S97} {n : Nat} {fr tz : Int} (hf : Fn (-1) l) (hs : (ex l).length ≤ 1000) (hn : bef (ex l) = n) (hn2 : n ≤ 1000) (hfr : 0 ≤ fr) (hto : tz ≤ n) : ∀ (d i k : Nat) (last kept : Int), i + d = n → Inv l fr tz last kept i → 4 * d + 10000 ≤ k →
    chancerykeep1_AxisPlacesKeepOrder.l1 k fr tz l (hullS l fr tz 0 0 0 0).1 (hullS l fr tz 0 0 0 0).2 last kept ((seqI 0 n).map (placeS l 0 0)) (((seqI 0 n).map (placeS l 0 0)).length : Int) (i : Int) = some true
  | 0, i, k, last, kept, hi, I, hk => by
    obtain ⟨m, rfl⟩ : ∃ m, k = m + 1 := ⟨k - 1, by omega⟩
    rw [chancerykeep1_AxisPlacesKeepOrder.l1, if_neg (by rw [List.length_map, seqI_len]; omega)]
    by_cases c : kept > 0
    · rw [if_pos c]
    · have hh := hull_none l fr tz 0 0 hf.pos (Int.le_refl _) (Int.le_refl _) (fun p a1 a2 a3 => by
        have := I.none_ (by have := I.kept0; omega) p.toNat (by omega) (by omega) (by omega)
        rwa [Int.toNat_of_nonneg a3] at this)
      rw [if_neg c, hh, if_pos rfl]
      rfl
  | d + 1, i, k, last, kept, hi, I, hk => by
    obtain ⟨m, rfl⟩ : ∃ m, k = m + 4 := ⟨k - 4, by omega⟩
    have hp := hf.pos
    have hlen : (((seqI 0 n).map (placeS l 0 0)).length : Int) = n := by rw [List.length_map, seqI_len]
    rw [chancerykeep1_AxisPlacesKeepOrder.l1, if_pos (by omega), if_pos (by omega), if_pos (by omega), rd_map _ n i (by omega), gap_ok hf (by omega) (by omega) (by omega) (by omega), Option.bind_some, gap_ok hf (by omega) (by omega) (by omega) (by omega), Option.bind_some, if_pos rfl, if_pos rfl]
    have g1 := gapS_right l 0 0 0 i hp (Int.le_refl _)
    have g2 : last < gapS l 0 0 i false := by
      rcases I.was with e | ⟨q, hq, e, h0⟩
      · have := gapS_up l 0 0 i false hp
        omega
      · rw [e]
        exact place_before l 0 0 q i _ hp (by omega) (by omega) (Int.le_refl _) rfl h0
    have g3 : 0 ≤ placeS l 0 0 i → gapS l 0 0 i true ≤ placeS l 0 0 i := fun h => place_gap l 0 0 i _ hp (by omega) (Int.le_refl _) rfl h
    obtain ⟨x, hx⟩ : ∃ x, x = placeS l 0 0 i := ⟨_, rfl⟩
    obtain ⟨gl, hgl⟩ : ∃ x, x = gapS l 0 0 i false := ⟨_, rfl⟩
    obtain ⟨gr, hgr⟩ : ∃ x, x = gapS l 0 0 i true := ⟨_, rfl⟩
    rw [← hgl, ← hgr] at g1
    rw [← hgl] at g2
    rw [← hgr, ← hx] at g3
    rw [← hx, ← hgl, ← hgr]
    have hlast : last ≤ 1000 := by
      rcases I.was with e | ⟨q, hq, e, h0⟩
      · omega
      · have := place_le l 0 0 q hp (by omega) (Int.le_refl _)
        omega
    have HW1 : Aside0 (wrap64 (last + 1) = last + 1) := ⟨wrap_small (by have := I.low; omega) (by omega)⟩
    have HW2 : Aside0 (wrap64 ((i : Int) + 1) = ((i + 1 : Nat) : Int)) := ⟨by rw [wmid (by omega) (by omega)]; omega⟩
    have HW3 : Aside0 (wrap64 (kept + 1) = kept + 1) := ⟨wmid (by have := I.kept0; omega) (by have := I.kept0; omega)⟩
    rw [if_neg (by omega)]
    by_cases cx : x ≥ 0
    · rw [if_pos cx, if_neg (by omega), if_neg (by omega), HW1.out, decide_eq_false (by omega), chancerykeep1_AxisPlacesKeepOrder.j3, if_neg (by decide), if_pos cx, chancerykeep1_AxisPlacesKeepOrder.j4]
      by_cases cf : (i : Int) ≥ fr
      · rw [if_pos cf]
        by_cases ct : (i : Int) < tz
        · obtain ⟨q1, q2⟩ := hull_has l fr tz 0 0 0 0 i x hp (by omega) (by omega) (by omega) (by omega) (by omega) (by omega) ct (by omega) hx.symm cx
          rw [if_pos ct, decide_eq_true cx, chancerykeep1_AxisPlacesKeepOrder.j5, if_pos rfl, if_neg (by omega), if_neg (by omega), HW2.out, HW3.out]
          exact law_l1 hf hs hn hn2 hfr hto d (i + 1) m x (kept + 1) (by omega) (I.step (.inl ⟨by omega, hx⟩) (.inl rfl)) (by omega)
        · rw [if_neg ct, chancerykeep1_AxisPlacesKeepOrder.j5, if_neg (by decide), HW2.out]
          exact law_l1 hf hs hn hn2 hfr hto d (i + 1) m x kept (by omega) (I.step (.inl ⟨by omega, hx⟩) (.inr ⟨rfl, by omega⟩)) (by omega)
      · rw [if_neg cf, chancerykeep1_AxisPlacesKeepOrder.j5, if_neg (by decide), HW2.out]
        exact law_l1 hf hs hn hn2 hfr hto d (i + 1) m x kept (by omega) (I.step (.inl ⟨by omega, hx⟩) (.inr ⟨rfl, by omega⟩)) (by omega)
    · rw [if_neg cx, HW1.out, decide_eq_false (by omega), chancerykeep1_AxisPlacesKeepOrder.j3, if_neg (by decide), if_neg cx, chancerykeep1_AxisPlacesKeepOrder.j4, decide_eq_false cx]
      have IH := law_l1 hf hs hn hn2 hfr hto d (i + 1) m last kept (by omega) (I.step (.inr ⟨by omega, rfl⟩) (.inr ⟨rfl, by omega⟩)) (by omega)
      have h5 : chancerykeep1_AxisPlacesKeepOrder.j5 (m + 1) fr tz l (hullS l fr tz 0 0 0 0).1 (hullS l fr tz 0 0 0 0).2 last kept x ((seqI 0 n).map (placeS l 0 0)) (((seqI 0 n).map (placeS l 0 0)).length : Int) (i : Int) false = some true := by
        rw [chancerykeep1_AxisPlacesKeepOrder.j5, if_neg (by decide), HW2.out]
        exact IH
      split
      · split
        · exact h5
        · exact h5
      · exact h5
theorem law_l0 {l : List S97} {n : Nat} {fr tz : Int} (hf : Fn (-1) l) (hs : (ex l).length ≤ 1000) (hn : bef (ex l) = n) (hn2 : n ≤ 1000) (hfr : 0 ≤ fr) (hto : tz ≤ n) : ∀ (d i k : Nat) (acc : List Int), i + d = n → acc ++ seqI i d = seqI 0 n → acc.length = i → d + 20000 ≤ k →
    chancerykeep1_AxisPlacesKeepOrder.l0 k (n : Int) fr tz l (hullS l fr tz 0 0 0 0).1 (hullS l fr tz 0 0 0 0).2 0 acc (n : Int) (i : Int) = some true
  | 0, i, k, acc, hi, ha, hl, hk => by
    obtain ⟨m, rfl⟩ : ∃ m, k = m + 2 := ⟨k - 2, by omega⟩
    rw [seqI, List.append_nil] at ha
    subst ha
    rw [chancerykeep1_AxisPlacesKeepOrder.l0, if_neg (by omega), apply_ok hf hs hn hn2 (by omega), Option.bind_some, if_pos rfl, if_pos rfl]
    have hz : ((((seqI 0 n).map (placeS l 0 0)).length : Int) != (n : Int)) = false := by
      rw [List.length_map, seqI_len]
      simp
    simp only [hz]
    rw [chancerykeep1_AxisPlacesKeepOrder.j1, if_neg (by decide)]
    exact law_l1 hf hs hn hn2 hfr hto n 0 m (-1) 0 (by omega) ⟨Int.le_refl _, .inl rfl, ⟨Int.le_refl _, Int.le_refl _⟩, fun _ q hq => absurd hq (Nat.not_lt_zero _)⟩ (by omega)
  | d + 1, i, k, acc, hi, ha, hl, hk => by
    obtain ⟨m, rfl⟩ : ∃ m, k = m + 1 := ⟨k - 1, by omega⟩
    rw [chancerykeep1_AxisPlacesKeepOrder.l0, if_pos (by omega), if_pos (by omega), wmid (by omega) (by omega), show ((i : Int) + 1) = ((i + 1 : Nat) : Int) from by omega]
    refine law_l0 hf hs hn hn2 hfr hto d (i + 1) m (acc ++ [(i : Int)]) (by omega) ?_ (by simp; omega) (by omega)
    rw [← ha, List.append_assoc, seqI]
    rfl
end Go.Proofs.Ytdgemabmmomebaa.PAxis
namespace Go.Proofs.Ytdgemabmmomebaa.Pure
open Go.RowKit Go.Proofs.Ytdgemabmmomebaa.PAxis Go.Proofs.YtdgemabmmomebaaW.PrintWords Go.Proofs.YtdgemabmmomebaaW.PrintLast

theorem AxisPlacesKeepOrder : chancerykeep1_AxisPlacesKeepOrder.Pure := by
  intro a0 l1 a2 a3 _ _ _ _ _ _
  obtain ⟨n, hn, n0, n1⟩ := within_ok a0 1 20 (by decide) (by decide) (by decide)
  obtain ⟨fr, hfr, fr0, fr1⟩ := within_ok a2 0 n (Int.le_refl _) (by omega) (by omega)
  obtain ⟨tz, hto, to0, to1⟩ := within_ok a3 fr n fr0 fr1 (by omega)
  refine ⟨100000, ?_⟩
  obtain ⟨a, ga, fa, ba, la⟩ := fitting_ok n l1 100000 (by omega) (by omega) (by omega)
  rw [chancerykeep1_AxisPlacesKeepOrder.f, axes_ok (by decide), Option.bind_some, if_pos rfl, hn, Option.bind_some]
  rw [show chancerykeep1_fitting.f 100000 n l1 = some a from ga, Option.bind_some, hfr, Option.bind_some, hto, Option.bind_some, rest_ok fa (by omega) fr0 to0 (by omega) (by omega), Option.bind_some]
  have := law_l0 (k := 100000) fa (by omega) ba (by omega) fr0 (by omega : tz ≤ (n.toNat : Int)) n.toNat 0 [] (by omega) rfl rfl (by omega)
  rw [Int.toNat_of_nonneg (by omega)] at this
  exact this
end Go.Proofs.Ytdgemabmmomebaa.Pure

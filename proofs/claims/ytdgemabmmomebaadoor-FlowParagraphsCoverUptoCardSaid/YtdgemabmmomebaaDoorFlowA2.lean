/- Elements and lists of attributes: the checks of the program and of the reference tell the same. -/
import Derived.Test.YtdgemabmmomebaaDoorFlowA1
import Derived.Test.YtdgemabmmomebaaDoorPFlowx9
namespace Go.Proofs.YtdgemabmmomebaaDoor.PFlow
open Go.RowKit Go.Proofs.YtdgemabmmomebaaDoorW.PrintWords Go.Proofs.YtdgemabmmomebaaDoorW.PrintLast Go.Proofs.YtdgemabmmomebaaDoorW.PrintMore
set_option linter.unusedVariables false
set_option linter.unusedSimpArgs false

def Small (l : List S51) : Prop := l.length ≤ 1099511627776 ∧ ∀ x ∈ l, x.f0.size ≤ 1099511627776 ∧ x.f1.size ≤ 1099511627776
abbrev ltS (x y : S51) : Bool := Op.bytesLess x.f0.toList y.f0.toList
def EL (l : List S51) (j : Int) : Prop := NameOK (rd_T51 l j).f0 ∧ ValOK (rd_T51 l j).f1 ∧ (0 < j → ltS (rd_T51 l (j - 1)) (rd_T51 l j) = true)
def AOK (l : List S51) : Prop := ∀ j : Int, 0 ≤ j → j < l.length → EL l j
theorem rd_mem {l : List S51} {i : Int} (h0 : 0 ≤ i) (h : i < l.length) : rd_T51 l i ∈ l := by
  have : i.toNat < l.length := by omega
  simp only [rd_T51, List.getD_eq_getElem?_getD, List.getElem?_eq_getElem this, Option.getD_some]
  exact List.getElem_mem this
theorem rerr_l0 (l : List S51) (hs : Small l) (d : Nat) : ∀ i : Int, 0 ≤ i → i ≤ l.length → (l.length : Int) - i = d →
    ∃ r : Int, Ev (fun k => chanceryref1_AttrsError.l0 k l false (l.length : Int) i) r ∧ (r = 0 ↔ ∀ j : Int, i ≤ j → j < l.length → EL l j) := by
  induction d with
  | zero =>
    intro i h0 h1 hd
    refine ⟨0, Ev.step (f := fun _ => some 0) (fun k => ?_) (Ev.now 0), ⟨fun _ j h2 h3 => by omega, fun _ => rfl⟩⟩
    simp only [chanceryref1_AttrsError.l0]
    rw [if_neg (by omega)]
  | succ d ih =>
    intro i h0 h1 hd
    have hlt : i < (l.length : Int) := by omega
    have hsz := hs.2 _ (rd_mem h0 hlt)
    have hs1 := hs.1
    obtain ⟨b, hb, hbn⟩ := rname_ev _ hsz.1
    obtain ⟨c, hc, hcv⟩ := rval_ev _ hsz.2
    cases b with
    | false =>
      refine ⟨9, Ev.step (fun k => by simp only [chanceryref1_AttrsError.l0]; rw [if_pos hlt, if_pos h0, if_pos hlt]) (Ev.bind hb (Ev.congr (fun k => by rw [if_neg (by decide)]) (Ev.now 9))), ⟨fun h => by omega, fun h => ?_⟩⟩
      exact absurd (hbn.2 (h i (Int.le_refl _) hlt).1) (by decide)
    | true =>
      have hno := hbn.1 rfl
      have key : ∀ bad : Bool, (bad = false ↔ ValOK (rd_T51 l i).f1) →
          ∃ r : Int, Ev (fun k => chanceryref1_AttrsError.j1 k l false i (l.length : Int) i bad) r ∧ (r = 0 ↔ ∀ j : Int, i ≤ j → j < l.length → EL l j) := by
        intro bad hbad
        cases bad with
        | true =>
          refine ⟨23, Ev.step (fun k => by simp only [chanceryref1_AttrsError.j1]; rw [if_pos (by decide)]) (Ev.now 23), ⟨fun h => by omega, fun h => ?_⟩⟩
          exact absurd (hbad.2 (h i (Int.le_refl _) hlt).2.1) (by decide)
        | false =>
          obtain ⟨r, hr, hri⟩ := ih (i + 1) (by omega) (by omega) (by omega)
          by_cases hi : i > 0
          · cases hlt' : ltS (rd_T51 l (i - 1)) (rd_T51 l i) with
            | true =>
              refine ⟨r, Ev.step (fun k => by
                simp only [chanceryref1_AttrsError.j1]
                rw [if_neg (by decide), if_pos hi, wrap_dn h0 (by omega), if_pos (by omega), if_pos (by omega), if_pos h0, if_pos hlt, if_pos hlt', wrap_up h0 (by omega)]) hr, hri.trans ⟨fun h j h2 h3 => ?_, fun h j h2 h3 => h j (by omega) h3⟩⟩
              rcases Int.lt_or_eq_of_le h2 with h4 | h4
              · exact h j (by omega) h3
              · subst h4; exact ⟨hno, hbad.1 rfl, fun _ => hlt'⟩
            | false =>
              refine ⟨5, Ev.step (fun k => by
                simp only [chanceryref1_AttrsError.j1]
                rw [if_neg (by decide), if_pos hi, wrap_dn h0 (by omega), if_pos (by omega), if_pos (by omega), if_pos h0, if_pos hlt, if_neg (fun h => absurd (h.symm.trans hlt') (by decide))]) (Ev.now 5), ⟨fun h => by omega, fun h => ?_⟩⟩
              have := (h i (Int.le_refl _) hlt).2.2 hi
              rw [hlt'] at this; cases this
          · refine ⟨r, Ev.step (fun k => by
              simp only [chanceryref1_AttrsError.j1]
              rw [if_neg (by decide), if_neg hi, wrap_up h0 (by omega)]) hr, hri.trans ⟨fun h j h2 h3 => ?_, fun h j h2 h3 => h j (by omega) h3⟩⟩
            rcases Int.lt_or_eq_of_le h2 with h4 | h4
            · exact h j (by omega) h3
            · subst h4; exact ⟨hno, hbad.1 rfl, fun h => absurd h hi⟩
      cases c with
      | true =>
        obtain ⟨r, hr, hri⟩ := key false ⟨fun _ => hcv.1 rfl, fun _ => rfl⟩
        exact ⟨r, Ev.step (fun k => by simp only [chanceryref1_AttrsError.l0]; rw [if_pos hlt, if_pos h0, if_pos hlt]) (Ev.bind hb (Ev.congr (fun k => by rw [if_pos (by decide)]) (Ev.bind hc (Ev.congr (fun k => by rw [if_pos (by decide)]) hr)))), hri⟩
      | false =>
        have hnv : ¬ ValOK (rd_T51 l i).f1 := fun h => absurd (hcv.2 h) (by decide)
        obtain ⟨r, hr, hri⟩ := key true ⟨(fun h => by cases h), (fun h => absurd h hnv)⟩
        by_cases he : (rd_T51 l i).f1.toList = []
        · exact ⟨r, Ev.step (fun k => by simp only [chanceryref1_AttrsError.l0]; rw [if_pos hlt, if_pos h0, if_pos hlt]) (Ev.bind hb (Ev.congr (fun k => by rw [if_pos (by decide)]) (Ev.bind hc (Ev.congr (fun k => by rw [if_neg (by decide), if_pos he]; rfl) hr)))), hri⟩
        · exact ⟨r, Ev.step (fun k => by simp only [chanceryref1_AttrsError.l0]; rw [if_pos hlt, if_pos h0, if_pos hlt]) (Ev.bind hb (Ev.congr (fun k => by rw [if_pos (by decide)]) (Ev.bind hc (Ev.congr (fun k => by rw [if_neg (by decide), if_neg he]) hr)))), hri⟩
theorem rerr_ev (l : List S51) (hs : Small l) : ∃ r : Int, Ev (fun k => chanceryref1_AttrsError.f k l false) r ∧ (r = 0 ↔ AOK l) :=
  rerr_l0 l hs l.length 0 (by omega) (by omega) (by omega)
theorem chk_l0 (l : List S51) (hs : Small l) (d : Nat) : ∀ i : Int, 0 ≤ i → i ≤ l.length → (l.length : Int) - i = d →
    ∃ r : Int, Ev (fun k => attr_check.l0 k l false l (l.length : Int) i) r ∧ (r = 0 ↔ ∀ j : Int, i ≤ j → j < l.length → EL l j) := by
  induction d with
  | zero =>
    intro i h0 h1 hd
    refine ⟨0, Ev.step (f := fun _ => some 0) (fun k => ?_) (Ev.now 0), ⟨fun _ j h2 h3 => by omega, fun _ => rfl⟩⟩
    simp only [attr_check.l0]
    rw [if_neg (by omega)]
  | succ d ih =>
    intro i h0 h1 hd
    have hlt : i < (l.length : Int) := by omega
    have hsz := hs.2 _ (rd_mem h0 hlt)
    have hs1 := hs.1
    obtain ⟨b, hb, hbn⟩ := name_ev _ hsz.1
    obtain ⟨c, hc, hcv⟩ := val_ev _ hsz.2
    cases b with
    | false =>
      refine ⟨9, Ev.step (fun k => by simp only [attr_check.l0]; rw [if_pos hlt, if_pos h0, if_pos hlt]) (Ev.bind hb (Ev.congr (fun k => by rw [if_neg (by decide)]) (Ev.now 9))), ⟨fun h => by omega, fun h => ?_⟩⟩
      exact absurd (hbn.2 (h i (Int.le_refl _) hlt).1) (by decide)
    | true =>
      have hno := hbn.1 rfl
      cases c with
      | false =>
        have hnv : ¬ ValOK (rd_T51 l i).f1 := fun h => absurd (hcv.2 h) (by decide)
        refine ⟨23, Ev.step (fun k => by simp only [attr_check.l0]; rw [if_pos hlt, if_pos h0, if_pos hlt]) (Ev.bind hb (Ev.congr (fun k => by rw [if_pos (by decide)]) (Ev.bind hc (Ev.congr (fun k => by rw [if_neg (by decide), if_neg (by decide)]) (Ev.step (fun k => by simp only [attr_check.j1]; rw [if_pos (by decide)]) (Ev.now 23)))))), ⟨fun h => by omega, fun h => ?_⟩⟩
        exact absurd (h i (Int.le_refl _) hlt).2.1 hnv
      | true =>
        have hva := hcv.1 rfl
        obtain ⟨r, hr, hri⟩ := ih (i + 1) (by omega) (by omega) (by omega)
        have key : ∃ r : Int, Ev (fun k => attr_check.j1 k l false i l (l.length : Int) i false (rd_T51 l i).f0 (rd_T51 l i).f1) r ∧ (r = 0 ↔ ∀ j : Int, i ≤ j → j < l.length → EL l j) := by
          by_cases hi : i > 0
          · cases hlt' : ltS (rd_T51 l (i - 1)) (rd_T51 l i) with
            | true =>
              refine ⟨r, Ev.step (fun k => by
                simp only [attr_check.j1]
                rw [if_neg (by decide), if_pos hi, wrap_dn h0 (by omega), if_pos (by omega), if_pos (by omega), if_pos hlt', wrap_up h0 (by omega)]) hr, hri.trans ⟨fun h j h2 h3 => ?_, fun h j h2 h3 => h j (by omega) h3⟩⟩
              rcases Int.lt_or_eq_of_le h2 with h4 | h4
              · exact h j (by omega) h3
              · subst h4; exact ⟨hno, hva, fun _ => hlt'⟩
            | false =>
              refine ⟨5, Ev.step (fun k => by
                simp only [attr_check.j1]
                rw [if_neg (by decide), if_pos hi, wrap_dn h0 (by omega), if_pos (by omega), if_pos (by omega), if_neg (fun h => absurd (h.symm.trans hlt') (by decide))]) (Ev.now 5), ⟨fun h => by omega, fun h => ?_⟩⟩
              have := (h i (Int.le_refl _) hlt).2.2 hi
              rw [hlt'] at this; cases this
          · refine ⟨r, Ev.step (fun k => by
              simp only [attr_check.j1]
              rw [if_neg (by decide), if_neg hi, wrap_up h0 (by omega)]) hr, hri.trans ⟨fun h j h2 h3 => ?_, fun h j h2 h3 => h j (by omega) h3⟩⟩
            rcases Int.lt_or_eq_of_le h2 with h4 | h4
            · exact h j (by omega) h3
            · subst h4; exact ⟨hno, hva, fun h => absurd h hi⟩
        obtain ⟨r, hr, hri⟩ := key
        exact ⟨r, Ev.step (fun k => by simp only [attr_check.l0]; rw [if_pos hlt, if_pos h0, if_pos hlt]) (Ev.bind hb (Ev.congr (fun k => by rw [if_pos (by decide)]) (Ev.bind hc (Ev.congr (fun k => by rw [if_pos (by decide)]) hr)))), hri⟩
theorem chk_ev (l : List S51) (hs : Small l) : ∃ r : Int, Ev (fun k => attr_Check.f k l) r ∧ (r = 0 ↔ AOK l) := by
  obtain ⟨r, hr, hri⟩ := chk_l0 l hs l.length 0 (by omega) (by omega) (by omega)
  exact ⟨r, Ev.bind (g := fun k => attr_check.f k l false) hr (Ev.now r), hri⟩

def CharOK (c : Int) : Prop := c = 9 ∨ c = 10 ∨ (32 ≤ c ∧ c ≤ 126) ∨ (160 ≤ c ∧ c ≤ 55295) ∨ (57344 ≤ c ∧ c ≤ 1114111)
instance (c : Int) : Decidable (CharOK c) := by unfold CharOK; infer_instance
theorem char_is (c : Int) : flow_Char.f c = some (decide (CharOK c)) := by
  have e : ∀ {p : Prop} [Decidable p] {b : Bool}, (p ↔ b = true) → decide p = b := fun {p} _ {b} h => by
    cases b with
    | true => exact decide_eq_true (h.2 rfl)
    | false => exact decide_eq_false (fun hp => absurd (h.1 hp) (by decide))
  unfold flow_Char.f
  repeat' split
  all_goals
    refine congrArg some (e ?_).symm
    simp only [iff_true, decide_eq_true_eq, Bool.false_eq_true, iff_false, CharOK]
    omega
theorem rin_is (c a b : Int) : chanceryref1_In.f c a b = some (decide (a ≤ c ∧ c ≤ b)) := by
  unfold chanceryref1_In.f
  by_cases h : c ≥ a
  · rw [if_pos h]
    refine congrArg some ?_
    by_cases h2 : c ≤ b
    · rw [decide_eq_true h2, decide_eq_true (by omega)]
    · rw [decide_eq_false h2, decide_eq_false (by omega)]
  · rw [if_neg h, decide_eq_false (by omega)]
theorem rchar_is (c : Int) : chanceryref1_Char.f c = some (decide (CharOK c)) := by
  unfold chanceryref1_Char.f
  rw [rin_is, rin_is, rin_is]
  simp only [Option.bind_some]
  by_cases h : CharOK c
  · rw [decide_eq_true h]
    have h' := h
    unfold CharOK at h'
    repeat' split
    all_goals first | rfl | skip
    refine congrArg some (decide_eq_true ?_)
    rename_i h1 h2 h3 h4
    rw [decide_eq_true_eq] at h3 h4
    omega
  · rw [decide_eq_false h]
    unfold CharOK at h
    rw [if_neg (by omega), if_neg (by omega), decide_eq_false (by omega), decide_eq_false (by omega), decide_eq_false (by omega)]
    rfl
def ElemOK (x : S31) : Prop := ((x.f0 = 0 ∧ 1 ≤ x.f1 ∧ x.f1 ≤ 1073741824) ∨ (x.f1 = 0 ∧ CharOK x.f0)) ∧ AOK x.f2
theorem not_char0 : ¬ CharOK 0 := by unfold CharOK; omega
theorem elem_ev (x : S31) (hs : Small x.f2) : ∃ r : Int, Ev (fun k => flow_elem.f k x.f0 x.f1 x.f2) r ∧ (r = 0 ↔ ElemOK x) := by
  obtain ⟨a, ha, hai⟩ := chk_ev x.f2 hs
  have last : Ev (fun k => (attr_Check.f k x.f2).bind fun t => some t) a := Ev.bind ha (Ev.now a)
  by_cases h0 : x.f0 = 0
  · by_cases h1 : x.f1 = 0
    · refine ⟨4, Ev.congr (fun k => ?_) (Ev.now 4), ⟨fun h => by omega, fun h => ?_⟩⟩
      · unfold flow_elem.f
        rw [h0, h1]
        rfl
      · rcases h.1 with h | h
        · omega
        · rw [h0] at h; exact absurd h.2 not_char0
    · have e : ∀ k, flow_elem.f (k + 1) x.f0 x.f1 x.f2 = if x.f1 < 1 then some 2 else if x.f1 > 1073741824 then some 2 else (attr_Check.f k x.f2).bind fun t => some t := fun k => by
        unfold flow_elem.f
        rw [h0, if_neg (by simpa using h1), if_neg h1, flow_elem.j0, if_neg (by decide), if_neg h1]
      by_cases h2 : 1 ≤ x.f1 ∧ x.f1 ≤ 1073741824
      · refine ⟨a, Ev.step (fun k => by rw [e, if_neg (by omega), if_neg (by omega)]) last, hai.trans ⟨fun h => ⟨.inl ⟨h0, h2⟩, h⟩, fun h => h.2⟩⟩
      · refine ⟨2, Ev.step (f := fun _ => some 2) (fun k => by rw [e]; split; rfl; rw [if_pos (by omega)]) (Ev.now 2), ⟨fun h => by omega, fun h => ?_⟩⟩
        rcases h.1 with h | h
        · exact absurd h.2 h2
        · exact absurd h.1 h1
  · by_cases h1 : x.f1 = 0
    · have e : ∀ k, flow_elem.f (k + 1) x.f0 x.f1 x.f2 = if decide (CharOK x.f0) = true then (attr_Check.f k x.f2).bind fun t => some t else some 2 := fun k => by
        unfold flow_elem.f
        rw [h1, if_neg (by simpa using h0), if_pos rfl, char_is, Option.bind_some, flow_elem.j0]
        cases decide (CharOK x.f0) with
        | true => rw [if_neg (show ¬ ((!true) = true) by decide), if_pos rfl, if_pos rfl]
        | false => rw [if_pos (show (!false) = true from rfl), if_neg (by decide)]
      by_cases h2 : CharOK x.f0
      · refine ⟨a, Ev.step (fun k => by rw [e, if_pos (decide_eq_true h2)]) last, hai.trans ⟨fun h => ⟨.inr ⟨h1, h2⟩, h⟩, fun h => h.2⟩⟩
      · refine ⟨2, Ev.step (f := fun _ => some 2) (fun k => by rw [e, if_neg (by rw [decide_eq_true_eq]; exact h2)]) (Ev.now 2), ⟨fun h => by omega, fun h => ?_⟩⟩
        rcases h.1 with h | h
        · exact absurd h.1 h0
        · exact absurd h.2 h2
    · refine ⟨4, Ev.congr (fun k => ?_) (Ev.now 4), ⟨fun h => by omega, fun h => ?_⟩⟩
      · have e0 : (x.f0 != 0) = true := by simpa using h0
        have e1 : (x.f1 != 0) = true := by simpa using h1
        unfold flow_elem.f
        rw [e0, e1, if_pos (show (true == true) = true from rfl)]
      · rcases h.1 with h | h
        · exact absurd h.1 h0
        · exact absurd h.1 h1
theorem relem_ev (x : S31) (hs : Small x.f2) : ∃ r : Int, Ev (fun k => chanceryref1_ElemError.f k x.f0 x.f1 x.f2) r ∧ (r = 0 ↔ ElemOK x) := by
  obtain ⟨a, ha, hai⟩ := rerr_ev x.f2 hs
  have last : Ev (fun k => (chanceryref1_AttrsError.f k x.f2 false).bind fun t => some t) a := Ev.bind ha (Ev.now a)
  have bad : ∀ (r : Int), r ≠ 0 → ¬ ElemOK x → (∀ k, chanceryref1_ElemError.f (k + 1) x.f0 x.f1 x.f2 = some r) → ∃ r : Int, Ev (fun k => chanceryref1_ElemError.f k x.f0 x.f1 x.f2) r ∧ (r = 0 ↔ ElemOK x) :=
    fun r h1 h2 h3 => ⟨r, Ev.step (f := fun _ => some r) h3 (Ev.now r), ⟨fun h => absurd h h1, fun h => absurd h h2⟩⟩
  by_cases h0 : x.f0 = 0
  · by_cases h1 : x.f1 = 0
    · refine bad 4 (by decide) (fun h => ?_) (fun k => ?_)
      · rcases h.1 with h | h
        · omega
        · rw [h0] at h; exact absurd h.2 not_char0
      · unfold chanceryref1_ElemError.f
        rw [if_pos h0, if_pos h1, chanceryref1_ElemError.j0, if_pos rfl]
    · have e : ∀ k, chanceryref1_ElemError.f (k + 1) x.f0 x.f1 x.f2 = if decide (1 ≤ x.f1 ∧ x.f1 ≤ 1073741824) = true then (chanceryref1_AttrsError.f k x.f2 false).bind fun t => some t else some 2 := fun k => by
        unfold chanceryref1_ElemError.f
        rw [if_pos h0, if_neg h1, chanceryref1_ElemError.j0, if_neg (by decide), if_pos h0, if_neg h1, rin_is, Option.bind_some]
      by_cases h2 : 1 ≤ x.f1 ∧ x.f1 ≤ 1073741824
      · exact ⟨a, Ev.step (fun k => by rw [e, if_pos (decide_eq_true h2)]) last, hai.trans ⟨fun h => ⟨.inl ⟨h0, h2⟩, h⟩, fun h => h.2⟩⟩
      · refine bad 2 (by decide) (fun h => ?_) (fun k => by rw [e, if_neg (by rw [decide_eq_true_eq]; exact h2)])
        rcases h.1 with h | h
        · exact absurd h.2 h2
        · exact absurd h.1 h1
  · by_cases h1 : x.f1 = 0
    · have e : ∀ k, chanceryref1_ElemError.f (k + 1) x.f0 x.f1 x.f2 = if decide (CharOK x.f0) = true then (chanceryref1_AttrsError.f k x.f2 false).bind fun t => some t else some 2 := fun k => by
        unfold chanceryref1_ElemError.f
        rw [if_neg h0, chanceryref1_ElemError.j0, if_neg (by simp [h1]), if_neg h0, rchar_is, Option.bind_some, if_pos h1]
      by_cases h2 : CharOK x.f0
      · exact ⟨a, Ev.step (fun k => by rw [e, if_pos (decide_eq_true h2)]) last, hai.trans ⟨fun h => ⟨.inr ⟨h1, h2⟩, h⟩, fun h => h.2⟩⟩
      · refine bad 2 (by decide) (fun h => ?_) (fun k => by rw [e, if_neg (by rw [decide_eq_true_eq]; exact h2)])
        rcases h.1 with h | h
        · exact absurd h.1 h0
        · exact absurd h.2 h2
    · refine bad 4 (by decide) (fun h => ?_) (fun k => ?_)
      · rcases h.1 with h | h
        · exact absurd h.1 h0
        · exact absurd h.1 h1
      · unfold chanceryref1_ElemError.f
        rw [if_neg h0, chanceryref1_ElemError.j0, if_pos (by simp [h1])]

/-- No list in a flow, and no string in it, is longer than 2^40. -/
def FSmall (f : List S31) : Prop := f.length ≤ 1048576 ∧ ∀ x ∈ f, Small x.f2 ∧ x.f2.length ≤ 1048576
theorem rdf_mem {l : List S31} {i : Int} (h0 : 0 ≤ i) (h : i < l.length) : rd_T31 l i ∈ l := by
  have : i.toNat < l.length := by omega
  simp only [rd_T31, List.getD_eq_getElem?_getD, List.getElem?_eq_getElem this, Option.getD_some]
  exact List.getElem_mem this
theorem memf_rd {l : List S31} {x : S31} (h : x ∈ l) : ∃ i : Int, 0 ≤ i ∧ i < l.length ∧ rd_T31 l i = x := by
  obtain ⟨j, hj, e⟩ := List.getElem_of_mem h
  exact ⟨(j : Int), by omega, by omega, by simp [rd_T31, List.getD_eq_getElem?_getD, List.getElem?_eq_getElem hj, e]⟩
def POK (f : List S31) : Prop := ∀ j : Int, 0 ≤ j → j < f.length → ElemOK (rd_T31 f j)
theorem part_l0 (f : List S31) (hs : FSmall f) (d : Nat) : ∀ i : Int, 0 ≤ i → i ≤ f.length → (f.length : Int) - i = d →
    ∃ r : Int, Ev (fun k => flow_CheckPart.l0 k f (f.length : Int) i) r ∧ (r = 0 ↔ ∀ j : Int, i ≤ j → j < f.length → ElemOK (rd_T31 f j)) := by
  induction d with
  | zero =>
    intro i h0 h1 hd
    refine ⟨0, Ev.step (f := fun _ => some 0) (fun k => ?_) (Ev.now 0), ⟨fun _ j h2 h3 => by omega, fun _ => rfl⟩⟩
    simp only [flow_CheckPart.l0]
    rw [if_neg (by omega)]
  | succ d ih =>
    intro i h0 h1 hd
    have hlt : i < (f.length : Int) := by omega
    have hs1 := hs.1
    obtain ⟨e, he, hei⟩ := elem_ev (rd_T31 f i) (hs.2 _ (rdf_mem h0 hlt)).1
    obtain ⟨r, hr, hri⟩ := ih (i + 1) (by omega) (by omega) (by omega)
    by_cases hz : e = 0
    · subst hz
      refine ⟨r, Ev.step (fun k => by simp only [flow_CheckPart.l0]; rw [if_pos hlt, if_pos h0, if_pos hlt, wrap_up h0 (by omega)]) (Ev.bind he (Ev.congr (fun k => by rw [if_pos rfl]) hr)), hri.trans ⟨fun h j h2 h3 => ?_, fun h j h2 h3 => h j (by omega) h3⟩⟩
      rcases Int.lt_or_eq_of_le h2 with h4 | h4
      · exact h j (by omega) h3
      · subst h4; exact hei.1 rfl
    · refine ⟨e, Ev.step (fun k => by simp only [flow_CheckPart.l0]; rw [if_pos hlt, if_pos h0, if_pos hlt]) (Ev.bind he (Ev.congr (fun k => by rw [if_neg hz]) (Ev.now e))), ⟨fun h => absurd h hz, fun h => ?_⟩⟩
      exact hei.2 (h i (Int.le_refl _) hlt)
theorem part_ev (f : List S31) (hs : FSmall f) : ∃ r : Int, Ev (fun k => flow_CheckPart.f k f) r ∧ (r = 0 ↔ POK f) := part_l0 f hs f.length 0 (by omega) (by omega) (by omega)
theorem rpart_l0 (f : List S31) (hs : FSmall f) (d : Nat) : ∀ i : Int, 0 ≤ i → i ≤ f.length → (f.length : Int) - i = d →
    ∃ r : Int, Ev (fun k => chanceryref1_PartError.l0 k f (f.length : Int) i) r ∧ (r = 0 ↔ ∀ j : Int, i ≤ j → j < f.length → ElemOK (rd_T31 f j)) := by
  induction d with
  | zero =>
    intro i h0 h1 hd
    refine ⟨0, Ev.step (f := fun _ => some 0) (fun k => ?_) (Ev.now 0), ⟨fun _ j h2 h3 => by omega, fun _ => rfl⟩⟩
    simp only [chanceryref1_PartError.l0]
    rw [if_neg (by omega)]
  | succ d ih =>
    intro i h0 h1 hd
    have hlt : i < (f.length : Int) := by omega
    have hs1 := hs.1
    obtain ⟨e, he, hei⟩ := relem_ev (rd_T31 f i) (hs.2 _ (rdf_mem h0 hlt)).1
    obtain ⟨r, hr, hri⟩ := ih (i + 1) (by omega) (by omega) (by omega)
    by_cases hz : e = 0
    · subst hz
      refine ⟨r, Ev.step (fun k => by simp only [chanceryref1_PartError.l0]; rw [if_pos hlt, if_pos h0, if_pos hlt, wrap_up h0 (by omega)]) (Ev.bind he (Ev.congr (fun k => by rw [if_pos rfl]) hr)), hri.trans ⟨fun h j h2 h3 => ?_, fun h j h2 h3 => h j (by omega) h3⟩⟩
      rcases Int.lt_or_eq_of_le h2 with h4 | h4
      · exact h j (by omega) h3
      · subst h4; exact hei.1 rfl
    · refine ⟨e, Ev.step (fun k => by simp only [chanceryref1_PartError.l0]; rw [if_pos hlt, if_pos h0, if_pos hlt]) (Ev.bind he (Ev.congr (fun k => by rw [if_neg hz]) (Ev.now e))), ⟨fun h => absurd h hz, fun h => ?_⟩⟩
      exact hei.2 (h i (Int.le_refl _) hlt)
theorem rpart_ev (f : List S31) (hs : FSmall f) : ∃ r : Int, Ev (fun k => chanceryref1_PartError.f k f) r ∧ (r = 0 ↔ POK f) := rpart_l0 f hs f.length 0 (by omega) (by omega) (by omega)

/-- A copy is the flow. -/
theorem copy_l0 (f : List S31) (hs : FSmall f) (d : Nat) : ∀ (i : Nat), i + d = f.length → Ev (fun k => flow_Copy.l0 k (f.take i ++ List.replicate (f.length - i) z31) f (f.length : Int) (i : Int)) f := by
  induction d with
  | zero =>
    intro i hi
    refine Ev.step (f := fun _ => some f) (fun k => ?_) (Ev.now f)
    simp only [flow_Copy.l0]
    rw [if_neg (by omega), show i = f.length by omega]
    simp
  | succ d ih =>
    intro i hi
    have hs1 := hs.1
    have hlt : (i : Int) < (f.length : Int) := by omega
    refine Ev.step (fun k => ?_) (ih (i + 1) (by omega))
    have hlen : (f.take i ++ List.replicate (f.length - i) z31).length = f.length := by simp; omega
    have hx : rd_T31 f (i : Int) = f[i]'(by omega) := by
      simp [rd_T31, List.getD_eq_getElem?_getD, List.getElem?_eq_getElem (show i < f.length by omega)]
    have h2 := (hs.2 _ (rdf_mem (l := f) (i := (i : Int)) (by omega) hlt)).2
    simp only [flow_Copy.l0]
    rw [if_pos hlt, if_pos (by omega), if_pos hlt, if_pos (by simp; omega), if_pos (by rw [hlen]; exact hlt), wrap_up (by omega) (by omega), show ((i : Int) + 1) = ((i + 1 : Nat) : Int) from by omega]
    have hset : (f.take i ++ List.replicate (f.length - i) z31).set (i : Int).toNat (⟨(rd_T31 f (i : Int)).f0, (rd_T31 f (i : Int)).f1, ([] : List S51) ++ (rd_T31 f (i : Int)).f2⟩ : S31) = f.take (i + 1) ++ List.replicate (f.length - (i + 1)) z31 := by
      rw [List.nil_append, Int.toNat_natCast]
      have hn : f.length - i = (f.length - (i + 1)) + 1 := by omega
      rw [hn, List.replicate_succ, List.set_append_right _ _ (by simp; omega)]
      have : i - (f.take i).length = 0 := by simp; omega
      have ht : f.take (i + 1) = f.take i ++ [f[i]'(by omega)] := by
        rw [List.take_add_one, List.getElem?_eq_getElem (show i < f.length by omega)]
        rfl
      rw [this, List.set_cons_zero, hx, ht, List.append_assoc]
      rfl
    rw [hset]
theorem copy_ev (f : List S31) (hs : FSmall f) : Ev (fun k => flow_Copy.f k f) f := by
  have hs1 := hs.1
  refine Ev.congr (fun k => ?_) (copy_l0 f hs f.length 0 (by omega))
  unfold flow_Copy.f
  rw [if_pos (by omega), if_pos (by omega)]
  simp
theorem FSmall.sub {f g : List S31} (h : FSmall f) (hl : g.length ≤ f.length) (hm : ∀ x, x ∈ g → x ∈ f) : FSmall g := ⟨Nat.le_trans hl h.1, fun x hx => h.2 x (hm x hx)⟩

theorem same_attrs (l : List S51) (hs : l.length ≤ 1099511627776) (d : Nat) : ∀ i : Int, 0 ≤ i → (l.length : Int) - i = d → Ev (fun k => chanceryref1_SameAttrs.l0 k l l (l.length : Int) i) true := by
  induction d with
  | zero =>
    intro i h0 hd
    refine Ev.step (f := fun _ => some true) (fun k => ?_) (Ev.now true)
    simp only [chanceryref1_SameAttrs.l0]
    rw [if_neg (by omega)]
  | succ d ih =>
    intro i h0 hd
    refine Ev.step (fun k => ?_) (ih (i + 1) (by omega) (by omega))
    simp only [chanceryref1_SameAttrs.l0]
    rw [if_pos (by omega), if_pos h0, if_pos (by omega), if_pos (by omega), if_neg (by simp), wrap_up h0 (by omega)]
theorem same_attrs_ev (l : List S51) (hs : l.length ≤ 1099511627776) : Ev (fun k => chanceryref1_SameAttrs.f k l l) true :=
  Ev.congr (fun k => by unfold chanceryref1_SameAttrs.f; rw [if_pos rfl]) (same_attrs l hs l.length 0 (by omega) (by omega))
theorem same_elem_ev (x : S31) (hs : Small x.f2) : Ev (fun k => chanceryref1_SameElem.f k x.f0 x.f1 x.f2 x.f0 x.f1 x.f2) true :=
  Ev.congr (fun k => by unfold chanceryref1_SameElem.f; rw [if_pos rfl, if_pos rfl]) (Ev.bind (same_attrs_ev x.f2 hs.1) (Ev.now true))
theorem same_flow (f : List S31) (hs : FSmall f) (d : Nat) : ∀ i : Int, 0 ≤ i → (f.length : Int) - i = d → Ev (fun k => chanceryref1_SameFlow.l0 k f f (f.length : Int) i) true := by
  have hs1 := hs.1
  induction d with
  | zero =>
    intro i h0 hd
    refine Ev.step (f := fun _ => some true) (fun k => ?_) (Ev.now true)
    simp only [chanceryref1_SameFlow.l0]
    rw [if_neg (by omega)]
  | succ d ih =>
    intro i h0 hd
    have hlt : i < (f.length : Int) := by omega
    refine Ev.step (f := fun k => (chanceryref1_SameElem.f k (rd_T31 f i).f0 (rd_T31 f i).f1 (rd_T31 f i).f2 (rd_T31 f i).f0 (rd_T31 f i).f1 (rd_T31 f i).f2).bind fun t => if t = true then chanceryref1_SameFlow.l0 k f f (f.length : Int) (wrap64 (i + 1)) else some false) (fun k => ?_)
      (Ev.bind (same_elem_ev (rd_T31 f i) (hs.2 _ (rdf_mem h0 hlt)).1) (Ev.congr (fun k => ?_) (ih (i + 1) (by omega) (by omega))))
    · simp only [chanceryref1_SameFlow.l0]
      rw [if_pos hlt, if_pos h0, if_pos hlt, if_pos hlt]
    · rw [if_pos rfl, wrap_up h0 (by omega)]
theorem same_flow_ev (f : List S31) (hs : FSmall f) : Ev (fun k => chanceryref1_SameFlow.f k f f) true :=
  Ev.congr (fun k => by unfold chanceryref1_SameFlow.f; rw [if_pos rfl]) (same_flow f hs f.length 0 (by omega) (by omega))
theorem within_ev (v hi : Int) (h1 : 0 ≤ hi) (h2 : hi ≤ 1099511627776) : ∃ r, chanceryref1_Within.f v 0 hi = some r ∧ 0 ≤ r ∧ r ≤ hi := by
  have wm : ∀ {i : Int}, 0 ≤ i → i ≤ 4611686018427387904 → wrap64 i = i := fun {i} a b => by unfold wrap64; omega
  unfold chanceryref1_Within.f
  rw [show wrap64 (hi - 0) = hi - 0 from wm (by omega) (by omega), show wrap64 (hi - 0 + 1) = hi - 0 + 1 from wm (by omega) (by omega), if_neg (by omega)]
  obtain ⟨n, hn⟩ : ∃ n, n = hi - 0 + 1 := ⟨_, rfl⟩
  rw [← hn]
  refine ⟨_, rfl, ?_⟩
  have h3 : -n < Int.tmod v n ∧ Int.tmod v n < n := ⟨Int.lt_tmod_of_pos v (by omega), Int.tmod_lt_of_pos v (by omega)⟩
  have h4 : wrap64 (Int.tmod v n + n) = Int.tmod v n + n := wm (by omega) (by omega)
  rw [h4]
  have h5 : 0 ≤ Int.tmod (Int.tmod v n + n) n := Int.tmod_nonneg _ (by omega)
  have h6 : Int.tmod (Int.tmod v n + n) n < n := Int.tmod_lt_of_pos _ (by omega)
  rw [wm (by omega) (by omega)]
  omega
end Go.Proofs.YtdgemabmmomebaaDoor.PFlow

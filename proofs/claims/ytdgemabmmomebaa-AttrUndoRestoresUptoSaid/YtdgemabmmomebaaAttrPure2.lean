/- Lists of attributes: what the reference's check accepts is sorted and valid, and the program's checks accept it. -/
import Derived.Test.YtdgemabmmomebaaAttrPure1
import Derived.Test.YtdgemabmmomebaaOrd
namespace Go.Proofs.Ytdgemabmmomebaa.PAttr
open Go.RowKit Go.Proofs.YtdgemabmmomebaaW.PrintWords Go.Proofs.YtdgemabmmomebaaW.PrintLast Go.Proofs.YtdgemabmmomebaaW.PrintMore
set_option linter.unusedVariables false

/-- No list and no string in it is longer than 2^40. -/
def Small (l : List S38) : Prop := l.length ≤ 1099511627776 ∧ ∀ x ∈ l, x.f0.size ≤ 1099511627776 ∧ x.f1.size ≤ 1099511627776
def ElOK (ch : Bool) (x : S38) : Prop := NameOK x.f0 ∧ (ValOK x.f1 ∨ (ch = true ∧ x.f1.size = 0))
def Srt (l : List S38) : Prop := l.Pairwise (fun x y => ltS x y = true)
def VA (ch : Bool) (l : List S38) : Prop := (∀ x ∈ l, ElOK ch x) ∧ Srt l
def EL (ch : Bool) (l : List S38) (j : Int) : Prop := ElOK ch (rd_T38 l j) ∧ (0 < j → ltS (rd_T38 l (j - 1)) (rd_T38 l j) = true)

theorem rd_mem {l : List S38} {i : Int} (h0 : 0 ≤ i) (h : i < l.length) : rd_T38 l i ∈ l := by
  have : i.toNat < l.length := by omega
  simp only [rd_T38, List.getD_eq_getElem?_getD, List.getElem?_eq_getElem this, Option.getD_some]
  exact List.getElem_mem this
theorem rd_cons {x : S38} {l : List S38} {i : Int} (h0 : 0 ≤ i) : rd_T38 (x :: l) (i + 1) = rd_T38 l i := by
  have : (i + 1).toNat = i.toNat + 1 := by omega
  simp [rd_T38, this]
theorem rd_zero {x : S38} {l : List S38} : rd_T38 (x :: l) 0 = x := rfl
theorem mem_rd {l : List S38} {x : S38} (h : x ∈ l) : ∃ i : Int, 0 ≤ i ∧ i < l.length ∧ rd_T38 l i = x := by
  obtain ⟨j, hj, e⟩ := List.getElem_of_mem h
  exact ⟨(j : Int), by omega, by omega, by simp [rd_T38, List.getD_eq_getElem?_getD, List.getElem?_eq_getElem hj, e]⟩

theorem va_of_el (ch : Bool) (l : List S38) : (∀ j : Int, 0 ≤ j → j < l.length → EL ch l j) → VA ch l := by
  intro h
  refine ⟨fun x hx => ?_, ?_⟩
  · obtain ⟨i, h0, h1, rfl⟩ := mem_rd hx
    exact (h i h0 h1).1
  · have h' : ∀ j : Int, 0 < j → j < l.length → ltS (rd_T38 l (j - 1)) (rd_T38 l j) = true := fun j h0 h1 => (h j (by omega) h1).2 h0
    clear h
    induction l with
    | nil => exact List.Pairwise.nil
    | cons x l ih =>
      have hs : Srt l := ih (fun j h0 h1 => by
        have := h' (j + 1) (by omega) (by simp; omega)
        rw [rd_cons (by omega), show j + 1 - 1 = (j - 1) + 1 by omega, rd_cons (by omega)] at this
        exact this)
      refine List.Pairwise.cons (fun y hy => ?_) hs
      cases l with
      | nil => cases hy
      | cons z t =>
        have hxz : ltS x z = true := by
          have := h' 1 (by omega) (by simp; omega)
          simpa [rd_T38] using this
        rcases List.mem_cons.1 hy with rfl | hy
        · exact hxz
        · exact Ord.less_trans hxz ((List.pairwise_cons.1 hs).1 y hy)
theorem el_of_va (ch : Bool) (l : List S38) (h : VA ch l) : ∀ j : Int, 0 ≤ j → j < l.length → EL ch l j := by
  intro j h0 h1
  refine ⟨h.1 _ (rd_mem h0 h1), fun hj => ?_⟩
  have := List.pairwise_iff_getElem.1 h.2 (j - 1).toNat j.toNat (by omega) (by omega) (by omega)
  simpa [rd_T38, List.getD_eq_getElem?_getD, List.getElem?_eq_getElem (show j.toNat - 1 < l.length by omega), List.getElem?_eq_getElem (show j.toNat < l.length by omega)] using this

theorem rerr_l0 (l : List S38) (ch : Bool) (hs : Small l) (d : Nat) : ∀ i : Int, 0 ≤ i → i ≤ l.length → (l.length : Int) - i = d →
    ∃ r : Int, Ev (fun k => chanceryref1_AttrsError.l0 k l ch (l.length : Int) i) r ∧ (r = 0 ↔ ∀ j : Int, i ≤ j → j < l.length → EL ch l j) := by
  induction d with
  | zero =>
    intro i h0 h1 hd
    refine ⟨0, Ev.step (f := fun _ => some 0) (fun k => ?_) (Ev.now 0), ⟨fun _ j h2 h3 => by omega, fun _ => rfl⟩⟩
    simp only [chanceryref1_AttrsError.l0]
    rw [if_neg (by omega)]
  | succ d ih =>
    intro i h0 h1 hd
    have hlt : i < (l.length : Int) := by omega
    have hsz := hs.2 _ (rd_mem h0 hlt)
    have hs1 := hs.1
    obtain ⟨b, hb, hbn⟩ := rname_ev _ hsz.1
    obtain ⟨c, hc, hcv⟩ := rval_ev _ hsz.2
    cases b with
    | false =>
      refine ⟨9, Ev.step (fun k => by simp only [chanceryref1_AttrsError.l0]; rw [if_pos hlt, if_pos h0, if_pos hlt]) (Ev.bind hb (Ev.congr (fun k => by rw [if_neg (by decide)]) (Ev.now 9))), ⟨fun h => by omega, fun h => ?_⟩⟩
      exact absurd (hbn.2 (h i (Int.le_refl _) hlt).1.1) (by decide)
    | true =>
      have hno := hbn.1 rfl
      -- what stands behind the value
      have key : ∀ bad : Bool, (bad = false ↔ (ValOK (rd_T38 l i).f1 ∨ (ch = true ∧ (rd_T38 l i).f1.size = 0))) →
          ∃ r : Int, Ev (fun k => chanceryref1_AttrsError.j1 k l ch i (l.length : Int) i bad) r ∧ (r = 0 ↔ ∀ j : Int, i ≤ j → j < l.length → EL ch l j) := by
        intro bad hbad
        cases bad with
        | true =>
          refine ⟨23, Ev.step (fun k => by simp only [chanceryref1_AttrsError.j1]; rw [if_pos (by decide)]) (Ev.now 23), ⟨fun h => by omega, fun h => ?_⟩⟩
          exact absurd (hbad.2 (h i (Int.le_refl _) hlt).1.2) (by decide)
        | false =>
          have hel : ElOK ch (rd_T38 l i) := ⟨hno, hbad.1 rfl⟩
          obtain ⟨r, hr, hri⟩ := ih (i + 1) (by omega) (by omega) (by omega)
          by_cases hi : i > 0
          · cases hlt' : ltS (rd_T38 l (i - 1)) (rd_T38 l i) with
            | true =>
              refine ⟨r, Ev.step (fun k => by
                simp only [chanceryref1_AttrsError.j1]
                rw [if_neg (by decide), if_pos hi, wrap_dn h0 (by omega), if_pos (by omega), if_pos (by omega), if_pos h0, if_pos hlt, if_pos hlt', wrap_up h0 (by omega)]) hr, hri.trans ⟨fun h j h2 h3 => ?_, fun h j h2 h3 => h j (by omega) h3⟩⟩
              rcases Int.lt_or_eq_of_le h2 with h4 | h4
              · exact h j (by omega) h3
              · subst h4; exact ⟨hel, fun _ => hlt'⟩
            | false =>
              refine ⟨5, Ev.step (fun k => by
                simp only [chanceryref1_AttrsError.j1]
                rw [if_neg (by decide), if_pos hi, wrap_dn h0 (by omega), if_pos (by omega), if_pos (by omega), if_pos h0, if_pos hlt, if_neg (fun h => absurd (h.symm.trans hlt') (by decide))]) (Ev.now 5), ⟨fun h => by omega, fun h => ?_⟩⟩
              have := (h i (Int.le_refl _) hlt).2 hi
              rw [hlt'] at this; cases this
          · refine ⟨r, Ev.step (fun k => by
              simp only [chanceryref1_AttrsError.j1]
              rw [if_neg (by decide), if_neg hi, wrap_up h0 (by omega)]) hr, hri.trans ⟨fun h j h2 h3 => ?_, fun h j h2 h3 => h j (by omega) h3⟩⟩
            rcases Int.lt_or_eq_of_le h2 with h4 | h4
            · exact h j (by omega) h3
            · subst h4; exact ⟨hel, fun h => absurd h hi⟩
      cases c with
      | true =>
        obtain ⟨r, hr, hri⟩ := key false ⟨fun _ => .inl (hcv.1 rfl), fun _ => rfl⟩
        exact ⟨r, Ev.step (fun k => by simp only [chanceryref1_AttrsError.l0]; rw [if_pos hlt, if_pos h0, if_pos hlt]) (Ev.bind hb (Ev.congr (fun k => by rw [if_pos (by decide)]) (Ev.bind hc (Ev.congr (fun k => by rw [if_pos (by decide)]) hr)))), hri⟩
      | false =>
        have hnv : ¬ ValOK (rd_T38 l i).f1 := fun h => absurd (hcv.2 h) (by decide)
        by_cases he : (rd_T38 l i).f1.toList = []
        · obtain ⟨r, hr, hri⟩ := key (!ch) (by
            cases ch with
            | true => exact ⟨fun _ => .inr ⟨rfl, list_nil.1 he⟩, fun _ => rfl⟩
            | false => exact ⟨(fun h => by cases h), (fun h => by rcases h with h | ⟨h, _⟩; exact absurd h hnv; cases h)⟩)
          exact ⟨r, Ev.step (fun k => by simp only [chanceryref1_AttrsError.l0]; rw [if_pos hlt, if_pos h0, if_pos hlt]) (Ev.bind hb (Ev.congr (fun k => by rw [if_pos (by decide)]) (Ev.bind hc (Ev.congr (fun k => by rw [if_neg (by decide), if_pos he]) hr)))), hri⟩
        · obtain ⟨r, hr, hri⟩ := key true ⟨(fun h => by cases h), (fun h => by rcases h with h | ⟨_, h⟩; exact absurd h hnv; exact absurd (list_nil.2 h) he)⟩
          exact ⟨r, Ev.step (fun k => by simp only [chanceryref1_AttrsError.l0]; rw [if_pos hlt, if_pos h0, if_pos hlt]) (Ev.bind hb (Ev.congr (fun k => by rw [if_pos (by decide)]) (Ev.bind hc (Ev.congr (fun k => by rw [if_neg (by decide), if_neg he]) hr)))), hri⟩
theorem rerr_ev (l : List S38) (ch : Bool) (hs : Small l) : ∃ r : Int, Ev (fun k => chanceryref1_AttrsError.f k l ch) r ∧ (r = 0 → VA ch l) := by
  obtain ⟨r, hr, hri⟩ := rerr_l0 l ch hs l.length 0 (by omega) (by omega) (by omega)
  exact ⟨r, hr, fun h => va_of_el ch l (hri.1 h)⟩

theorem chk_l0 (l : List S38) (ch : Bool) (hs : l.length ≤ 1099511627776) (hv : ∀ j : Int, 0 ≤ j → j < l.length → EL ch l j) (d : Nat) : ∀ i : Int, 0 ≤ i → i ≤ l.length → (l.length : Int) - i = d →
    Ev (fun k => attr_check.l0 k l ch l (l.length : Int) i) 0 := by
  induction d with
  | zero =>
    intro i h0 h1 hd
    refine Ev.step (f := fun _ => some 0) (fun k => ?_) (Ev.now 0)
    simp only [attr_check.l0]
    rw [if_neg (by omega)]
  | succ d ih =>
    intro i h0 h1 hd
    have hlt : i < (l.length : Int) := by omega
    obtain ⟨⟨hn, hval⟩, hord⟩ := hv i h0 hlt
    have hr := ih (i + 1) (by omega) (by omega) (by omega)
    have key : Ev (fun k => attr_check.j1 k l ch i l (l.length : Int) i false (rd_T38 l i).f0 (rd_T38 l i).f1) 0 := by
      by_cases hi : i > 0
      · refine Ev.step (fun k => ?_) hr
        simp only [attr_check.j1]
        rw [if_neg (by decide), if_pos hi, wrap_dn h0 (by omega), if_pos (by omega), if_pos (by omega), if_pos (hord hi), wrap_up h0 (by omega)]
      · refine Ev.step (fun k => ?_) hr
        simp only [attr_check.j1]
        rw [if_neg (by decide), if_neg hi, wrap_up h0 (by omega)]
    refine Ev.step (fun k => by simp only [attr_check.l0]; rw [if_pos hlt, if_pos h0, if_pos hlt]) (Ev.bind (name_ev _ hn) (Ev.congr (fun k => by rw [if_pos (by decide)]) ?_))
    rcases hval with hval | ⟨rfl, hval⟩
    · exact Ev.bind (val_ev _ hval) (Ev.congr (fun k => by rw [if_pos (by decide)]) key)
    · refine Ev.bind (val_empty _ hval) (Ev.congr (fun k => ?_) key)
      rw [if_neg (by decide), if_pos (by decide), list_nil.2 hval]
      rfl
theorem check_ev (l : List S38) (hs : l.length ≤ 1099511627776) (h : VA false l) : Ev (fun k => attr_Check.f k l) 0 :=
  Ev.bind (chk_l0 l false hs (el_of_va false l h) l.length 0 (by omega) (by omega) (by omega)) (Ev.now 0)
theorem checkc_ev (l : List S38) (hs : l.length ≤ 1099511627776) (h : VA true l) : Ev (fun k => attr_CheckChange.f k l) 0 :=
  Ev.bind (chk_l0 l true hs (el_of_va true l h) l.length 0 (by omega) (by omega) (by omega)) (Ev.now 0)

theorem same_l0 (l : List S38) (hs : l.length ≤ 1099511627776) (d : Nat) : ∀ (k : Nat) (i : Int), 0 ≤ i → i ≤ l.length → (l.length : Int) - i = d → d < k →
    chanceryref1_SameAttrs.l0 k l l (l.length : Int) i = some true := by
  induction d with
  | zero =>
    intro k i h0 h1 hd hk
    obtain ⟨k, rfl⟩ : ∃ m, k = m + 1 := ⟨k - 1, by omega⟩
    simp only [chanceryref1_SameAttrs.l0]
    rw [if_neg (by omega)]
  | succ d ih =>
    intro k i h0 h1 hd hk
    obtain ⟨k, rfl⟩ : ∃ m, k = m + 1 := ⟨k - 1, by omega⟩
    have hlt : i < (l.length : Int) := by omega
    simp only [chanceryref1_SameAttrs.l0]
    rw [if_pos hlt, if_pos h0, if_pos hlt, if_pos hlt, if_neg (by simp), wrap_up h0 (by omega)]
    exact ih k (i + 1) (by omega) (by omega) (by omega) (by omega)
theorem same_ev (l : List S38) (hs : l.length ≤ 1099511627776) : Ev (fun k => chanceryref1_SameAttrs.f k l l) true := by
  refine Ev.of (fun k => chanceryref1_SameAttrs.mono l l k) (k := l.length + 1) ?_
  simp only [chanceryref1_SameAttrs.f]
  rw [if_pos trivial]
  exact same_l0 l hs l.length (l.length + 1) 0 (by omega) (by omega) (by omega) (by omega)

theorem attrs_ev : Ev (fun k => chancerykeep1_attrs.f k) true := by
  refine Ev.of (fun k => chancerykeep1_attrs.mono k) (k := 12) ?_
  decide +kernel
end Go.Proofs.Ytdgemabmmomebaa.PAttr

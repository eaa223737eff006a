/- Names, values and lists of attributes: the checks of the program and of the reference tell the same. Strings and lists are shorter than 2^40. -/
import Derived.Test.YtdgemabmmomebaaPAttrx7
namespace Go.Proofs.Ytdgemabmmomebaa.PAttr
open Go.RowKit Go.Proofs.YtdgemabmmomebaaW.PrintWords Go.Proofs.YtdgemabmmomebaaW.PrintLast Go.Proofs.YtdgemabmmomebaaW.PrintMore
set_option linter.unusedVariables false

def SZ : Nat := 1099511627776
theorem wrap_up {i : Int} (h0 : 0 ≤ i) (h : i ≤ 1099511627776) : wrap64 (i + 1) = i + 1 := by unfold wrap64; omega
theorem wrap_dn {i : Int} (h0 : 0 ≤ i) (h : i ≤ 1099511627776) : wrap64 (i - 1) = i - 1 := by unfold wrap64; omega

def chOK (first : Prop) (c : Int) : Prop := (97 ≤ c ∧ c ≤ 122) ∨ (¬ first ∧ (c = 46 ∨ c = 45 ∨ (48 ≤ c ∧ c ≤ 57)))
def NameOK (s : ByteArray) : Prop := 1 ≤ s.size ∧ s.size ≤ 24 ∧ ∀ i : Int, 0 ≤ i → i < s.size → chOK (i = 0) (bt s i)
def ValOK (s : ByteArray) : Prop := 1 ≤ s.size ∧ s.size ≤ 200 ∧ ∀ i : Int, 0 ≤ i → i < s.size → 32 ≤ bt s i ∧ bt s i ≤ 126

theorem size_list (s : ByteArray) : s.toList.length = s.size := by rw [ByteArray.toList_eq]; rfl
theorem list_nil {s : ByteArray} : s.toList = [] ↔ s.size = 0 := by rw [← size_list, List.length_eq_zero_iff]
theorem ba_ext {a b : ByteArray} (h : a.toList = b.toList) : a = b := by
  rw [ByteArray.toList_eq, ByteArray.toList_eq] at h
  cases a; cases b; congr; exact Array.toList_inj.1 h

theorem rname_l0 (s : ByteArray) (hs : s.size ≤ 1099511627776) (d : Nat) : ∀ (k : Nat) (i : Int), 0 ≤ i → i ≤ s.size → (s.size : Int) - i = d → d < k →
    ∃ b, chanceryref1_Name.l0 k s (s.size : Int) i = some b ∧ (b = true ↔ (1 ≤ s.size ∧ s.size ≤ 24 ∧ ∀ j : Int, i ≤ j → j < s.size → chOK (j = 0) (bt s j))) := by
  induction d with
  | zero =>
    intro k i h0 h1 hd hk
    obtain ⟨k, rfl⟩ : ∃ m, k = m + 1 := ⟨k - 1, by omega⟩
    simp only [chanceryref1_Name.l0]
    rw [if_neg (by omega)]
    by_cases hz : (s.size : Int) ≥ 1
    · rw [if_pos hz]
      refine ⟨_, rfl, ?_⟩
      rw [decide_eq_true_eq]
      exact ⟨fun h => ⟨by omega, by omega, fun j h2 h3 => by omega⟩, fun h => by omega⟩
    · rw [if_neg hz]
      exact ⟨false, rfl, by simp; omega⟩
  | succ d ih =>
    intro k i h0 h1 hd hk
    obtain ⟨k, rfl⟩ : ∃ m, k = m + 1 := ⟨k - 1, by omega⟩
    have hlt : i < (s.size : Int) := by omega
    by_cases hc : chOK (i = 0) (bt s i)
    · have e : chanceryref1_Name.l0 (k + 1) s (s.size : Int) i = chanceryref1_Name.l0 k s (s.size : Int) (i + 1) := by
        simp only [chanceryref1_Name.l0]
        rw [if_pos hlt, if_pos h0, if_pos hlt, wrap_up h0 (by omega)]
        unfold chOK at hc
        repeat' (first | rfl | split)
        all_goals (exfalso; omega)
      obtain ⟨b, hb, hi⟩ := ih k (i + 1) (by omega) (by omega) (by omega) (by omega)
      refine ⟨b, e.trans hb, hi.trans ⟨fun ⟨a1, a2, a3⟩ => ⟨a1, a2, fun j h2 h3 => ?_⟩, fun ⟨a1, a2, a3⟩ => ⟨a1, a2, fun j h2 h3 => a3 j (by omega) h3⟩⟩⟩
      rcases Int.lt_or_eq_of_le h2 with h4 | h4
      · exact a3 j (by omega) h3
      · subst h4; exact hc
    · refine ⟨false, ?_, ⟨(fun h => by cases h), (fun h => absurd (h.2.2 i (Int.le_refl _) hlt) hc)⟩⟩
      simp only [chanceryref1_Name.l0]
      rw [if_pos hlt, if_pos h0, if_pos hlt]
      unfold chOK at hc
      repeat' (first | rfl | split)
      all_goals (exfalso; omega)
theorem rname_ev (s : ByteArray) (hs : s.size ≤ 1099511627776) : ∃ b, Ev (fun k => chanceryref1_Name.f k s) b ∧ (b = true ↔ NameOK s) := by
  obtain ⟨b, hb, hi⟩ := rname_l0 s hs s.size (s.size + 1) 0 (by omega) (by omega) (by omega) (by omega)
  exact ⟨b, Ev.of (fun k => chanceryref1_Name.mono s k) (k := s.size + 1) hb, hi⟩

theorem name_l0 (s : ByteArray) (hs : s.size ≤ 1099511627776) (d : Nat) : ∀ (k : Nat) (i : Int), 0 ≤ i → i ≤ s.size → (s.size : Int) - i = d → d < k →
    (∀ j : Int, i ≤ j → j < s.size → chOK False (bt s j)) → attr_Name.l0 k s (s.size : Int) i = some true := by
  induction d with
  | zero =>
    intro k i h0 h1 hd hk hc
    obtain ⟨k, rfl⟩ : ∃ m, k = m + 1 := ⟨k - 1, by omega⟩
    simp only [attr_Name.l0]
    rw [if_neg (by omega)]
  | succ d ih =>
    intro k i h0 h1 hd hk hc
    obtain ⟨k, rfl⟩ : ∃ m, k = m + 1 := ⟨k - 1, by omega⟩
    have hlt : i < (s.size : Int) := by omega
    have hi := hc i (Int.le_refl _) hlt
    have e : attr_Name.l0 (k + 1) s (s.size : Int) i = attr_Name.l0 k s (s.size : Int) (i + 1) := by
      simp only [attr_Name.l0]
      rw [if_pos hlt, if_pos h0, if_pos hlt, wrap_up h0 (by omega)]
      unfold chOK at hi
      repeat' (first | rfl | split)
      all_goals (exfalso; omega)
    rw [e]
    exact ih k (i + 1) (by omega) (by omega) (by omega) (by omega) (fun j h2 h3 => hc j (by omega) h3)
theorem name_ev (s : ByteArray) (h : NameOK s) : Ev (fun k => attr_Name.f k s) true := by
  obtain ⟨h1, h2, h3⟩ := h
  refine Ev.of (fun k => attr_Name.mono s k) (k := s.size + 2) ?_
  have hf := h3 0 (by omega) (by omega)
  unfold chOK at hf
  simp only [attr_Name.f]
  rw [if_neg (by rw [list_nil]; omega), if_neg (by omega), if_pos (by omega), if_neg (by omega)]
  simp only [attr_Name.j0]
  rw [if_neg (by simp; omega)]
  refine name_l0 s (by omega) s.size (s.size + 1) 0 (by omega) (by omega) (by omega) (by omega) (fun j h4 h5 => ?_)
  rcases h3 j h4 h5 with h | ⟨_, h⟩
  · exact .inl h
  · exact .inr ⟨id, h⟩

theorem rval_l0 (s : ByteArray) (hs : s.size ≤ 1099511627776) (d : Nat) : ∀ (k : Nat) (i : Int), 0 ≤ i → i ≤ s.size → (s.size : Int) - i = d → d < k →
    ∃ b, chanceryref1_Value.l0 k s (s.size : Int) i = some b ∧ (b = true ↔ (1 ≤ s.size ∧ s.size ≤ 200 ∧ ∀ j : Int, i ≤ j → j < s.size → 32 ≤ bt s j ∧ bt s j ≤ 126)) := by
  induction d with
  | zero =>
    intro k i h0 h1 hd hk
    obtain ⟨k, rfl⟩ : ∃ m, k = m + 1 := ⟨k - 1, by omega⟩
    simp only [chanceryref1_Value.l0]
    rw [if_neg (by omega)]
    by_cases hz : (s.size : Int) ≥ 1
    · rw [if_pos hz]
      refine ⟨_, rfl, ?_⟩
      rw [decide_eq_true_eq]
      exact ⟨fun h => ⟨by omega, by omega, fun j h2 h3 => by omega⟩, fun h => by omega⟩
    · rw [if_neg hz]
      exact ⟨false, rfl, by simp; omega⟩
  | succ d ih =>
    intro k i h0 h1 hd hk
    obtain ⟨k, rfl⟩ : ∃ m, k = m + 1 := ⟨k - 1, by omega⟩
    have hlt : i < (s.size : Int) := by omega
    by_cases hc : 32 ≤ bt s i ∧ bt s i ≤ 126
    · have e : chanceryref1_Value.l0 (k + 1) s (s.size : Int) i = chanceryref1_Value.l0 k s (s.size : Int) (i + 1) := by
        simp only [chanceryref1_Value.l0]
        rw [if_pos hlt, if_pos h0, if_pos hlt, wrap_up h0 (by omega), if_neg (by omega), if_neg (by omega)]
      obtain ⟨b, hb, hi⟩ := ih k (i + 1) (by omega) (by omega) (by omega) (by omega)
      refine ⟨b, e.trans hb, hi.trans ⟨fun ⟨a1, a2, a3⟩ => ⟨a1, a2, fun j h2 h3 => ?_⟩, fun ⟨a1, a2, a3⟩ => ⟨a1, a2, fun j h2 h3 => a3 j (by omega) h3⟩⟩⟩
      rcases Int.lt_or_eq_of_le h2 with h4 | h4
      · exact a3 j (by omega) h3
      · subst h4; exact hc
    · refine ⟨false, ?_, ⟨(fun h => by cases h), (fun h => absurd (h.2.2 i (Int.le_refl _) hlt) hc)⟩⟩
      simp only [chanceryref1_Value.l0]
      rw [if_pos hlt, if_pos h0, if_pos hlt]
      repeat' (first | rfl | split)
      all_goals (exfalso; omega)
theorem rval_ev (s : ByteArray) (hs : s.size ≤ 1099511627776) : ∃ b, Ev (fun k => chanceryref1_Value.f k s) b ∧ (b = true ↔ ValOK s) := by
  obtain ⟨b, hb, hi⟩ := rval_l0 s hs s.size (s.size + 1) 0 (by omega) (by omega) (by omega) (by omega)
  exact ⟨b, Ev.of (fun k => chanceryref1_Value.mono s k) (k := s.size + 1) hb, hi⟩
theorem val_l0 (s : ByteArray) (hs : s.size ≤ 1099511627776) (d : Nat) : ∀ (k : Nat) (i : Int), 0 ≤ i → i ≤ s.size → (s.size : Int) - i = d → d < k →
    (∀ j : Int, i ≤ j → j < s.size → 32 ≤ bt s j ∧ bt s j ≤ 126) → attr_Value.l0 k s (s.size : Int) i = some true := by
  induction d with
  | zero =>
    intro k i h0 h1 hd hk hc
    obtain ⟨k, rfl⟩ : ∃ m, k = m + 1 := ⟨k - 1, by omega⟩
    simp only [attr_Value.l0]
    rw [if_neg (by omega)]
  | succ d ih =>
    intro k i h0 h1 hd hk hc
    obtain ⟨k, rfl⟩ : ∃ m, k = m + 1 := ⟨k - 1, by omega⟩
    have hlt : i < (s.size : Int) := by omega
    have hi := hc i (Int.le_refl _) hlt
    simp only [attr_Value.l0]
    rw [if_pos hlt, if_pos h0, if_pos hlt, wrap_up h0 (by omega), if_neg (by omega), if_neg (by omega)]
    exact ih k (i + 1) (by omega) (by omega) (by omega) (by omega) (fun j h2 h3 => hc j (by omega) h3)
theorem val_ev (s : ByteArray) (h : ValOK s) : Ev (fun k => attr_Value.f k s) true := by
  obtain ⟨h1, h2, h3⟩ := h
  refine Ev.of (fun k => attr_Value.mono s k) (k := s.size + 2) ?_
  simp only [attr_Value.f]
  rw [if_neg (by rw [list_nil]; omega)]
  simp only [attr_Value.j0]
  rw [if_neg (by simp; omega)]
  exact val_l0 s (by omega) s.size (s.size + 1) 0 (by omega) (by omega) (by omega) (by omega) h3
theorem val_empty (s : ByteArray) (h : s.size = 0) : Ev (fun k => attr_Value.f k s) false := by
  refine Ev.of (fun k => attr_Value.mono s k) (k := 1) ?_
  simp only [attr_Value.f]
  rw [if_pos (list_nil.2 h)]
  simp only [attr_Value.j0]
  rfl
end Go.Proofs.Ytdgemabmmomebaa.PAttr

/- Names, values and lists of attributes: the checks of the program and of the reference tell the same, whatever they are. Strings and lists are shorter than 2^40. -/
import Derived.Test.YtdgemabmmomebaaDoorPFlowx8
namespace Go.Proofs.YtdgemabmmomebaaDoor.PFlow
open Go.RowKit Go.Proofs.YtdgemabmmomebaaDoorW.PrintWords Go.Proofs.YtdgemabmmomebaaDoorW.PrintLast Go.Proofs.YtdgemabmmomebaaDoorW.PrintMore
set_option linter.unusedVariables false

def SZ : Nat := 1099511627776
theorem wrap_up {i : Int} (h0 : 0 ≤ i) (h : i ≤ 1099511627776) : wrap64 (i + 1) = i + 1 := by unfold wrap64; omega
theorem wrap_dn {i : Int} (h0 : 0 ≤ i) (h : i ≤ 1099511627776) : wrap64 (i - 1) = i - 1 := by unfold wrap64; omega

def chOK (first : Prop) (c : Int) : Prop := (97 ≤ c ∧ c ≤ 122) ∨ (¬ first ∧ (c = 46 ∨ c = 45 ∨ (48 ≤ c ∧ c ≤ 57)))
def NameOK (s : ByteArray) : Prop := 1 ≤ s.size ∧ s.size ≤ 24 ∧ ∀ i : Int, 0 ≤ i → i < s.size → chOK (i = 0) (bt s i)
def ValOK (s : ByteArray) : Prop := 1 ≤ s.size ∧ s.size ≤ 200 ∧ ∀ i : Int, 0 ≤ i → i < s.size → 32 ≤ bt s i ∧ bt s i ≤ 126

theorem size_list (s : ByteArray) : s.toList.length = s.size := by rw [ByteArray.toList_eq]; rfl
theorem list_nil {s : ByteArray} : s.toList = [] ↔ s.size = 0 := by rw [← size_list, List.length_eq_zero_iff]
theorem ba_ext {a b : ByteArray} (h : a.toList = b.toList) : a = b := by
  rw [ByteArray.toList_eq, ByteArray.toList_eq] at h
  cases a; cases b; congr; exact Array.toList_inj.1 h

theorem rname_l0 (s : ByteArray) (hs : s.size ≤ 1099511627776) (d : Nat) : ∀ (k : Nat) (i : Int), 0 ≤ i → i ≤ s.size → (s.size : Int) - i = d → d < k →
    ∃ b, chanceryref1_Name.l0 k s (s.size : Int) i = some b ∧ (b = true ↔ (1 ≤ s.size ∧ s.size ≤ 24 ∧ ∀ j : Int, i ≤ j → j < s.size → chOK (j = 0) (bt s j))) := by
  induction d with
  | zero =>
    intro k i h0 h1 hd hk
    obtain ⟨k, rfl⟩ : ∃ m, k = m + 1 := ⟨k - 1, by omega⟩
    simp only [chanceryref1_Name.l0]
    rw [if_neg (by omega)]
    by_cases hz : (s.size : Int) ≥ 1
    · rw [if_pos hz]
      refine ⟨_, rfl, ?_⟩
      rw [decide_eq_true_eq]
      exact ⟨fun h => ⟨by omega, by omega, fun j h2 h3 => by omega⟩, fun h => by omega⟩
    · rw [if_neg hz]
      exact ⟨false, rfl, by simp; omega⟩
  | succ d ih =>
    intro k i h0 h1 hd hk
    obtain ⟨k, rfl⟩ : ∃ m, k = m + 1 := ⟨k - 1, by omega⟩
    have hlt : i < (s.size : Int) := by omega
    by_cases hc : chOK (i = 0) (bt s i)
    · have e : chanceryref1_Name.l0 (k + 1) s (s.size : Int) i = chanceryref1_Name.l0 k s (s.size : Int) (i + 1) := by
        simp only [chanceryref1_Name.l0]
        rw [if_pos hlt, if_pos h0, if_pos hlt, wrap_up h0 (by omega)]
        unfold chOK at hc
        repeat' (first | rfl | split)
        all_goals (exfalso; omega)
      obtain ⟨b, hb, hi⟩ := ih k (i + 1) (by omega) (by omega) (by omega) (by omega)
      refine ⟨b, e.trans hb, hi.trans ⟨fun ⟨a1, a2, a3⟩ => ⟨a1, a2, fun j h2 h3 => ?_⟩, fun ⟨a1, a2, a3⟩ => ⟨a1, a2, fun j h2 h3 => a3 j (by omega) h3⟩⟩⟩
      rcases Int.lt_or_eq_of_le h2 with h4 | h4
      · exact a3 j (by omega) h3
      · subst h4; exact hc
    · refine ⟨false, ?_, ⟨(fun h => by cases h), (fun h => absurd (h.2.2 i (Int.le_refl _) hlt) hc)⟩⟩
      simp only [chanceryref1_Name.l0]
      rw [if_pos hlt, if_pos h0, if_pos hlt]
      unfold chOK at hc
      repeat' (first | rfl | split)
      all_goals (exfalso; omega)
theorem rname_ev (s : ByteArray) (hs : s.size ≤ 1099511627776) : ∃ b, Ev (fun k => chanceryref1_Name.f k s) b ∧ (b = true ↔ NameOK s) := by
  obtain ⟨b, hb, hi⟩ := rname_l0 s hs s.size (s.size + 1) 0 (by omega) (by omega) (by omega) (by omega)
  exact ⟨b, Ev.of (fun k => chanceryref1_Name.mono s k) (k := s.size + 1) hb, hi⟩

theorem name_l0 (s : ByteArray) (hs : s.size ≤ 1099511627776) (d : Nat) : ∀ (k : Nat) (i : Int), 0 ≤ i → i ≤ s.size → (s.size : Int) - i = d → d < k →
    ∃ b, attr_Name.l0 k s (s.size : Int) i = some b ∧ (b = true ↔ ∀ j : Int, i ≤ j → j < s.size → chOK False (bt s j)) := by
  induction d with
  | zero =>
    intro k i h0 h1 hd hk
    obtain ⟨k, rfl⟩ : ∃ m, k = m + 1 := ⟨k - 1, by omega⟩
    simp only [attr_Name.l0]
    rw [if_neg (by omega)]
    exact ⟨true, rfl, ⟨fun _ j h2 h3 => by omega, fun _ => rfl⟩⟩
  | succ d ih =>
    intro k i h0 h1 hd hk
    obtain ⟨k, rfl⟩ : ∃ m, k = m + 1 := ⟨k - 1, by omega⟩
    have hlt : i < (s.size : Int) := by omega
    by_cases hc : chOK False (bt s i)
    · have e : attr_Name.l0 (k + 1) s (s.size : Int) i = attr_Name.l0 k s (s.size : Int) (i + 1) := by
        simp only [attr_Name.l0]
        rw [if_pos hlt, if_pos h0, if_pos hlt, wrap_up h0 (by omega)]
        unfold chOK at hc
        repeat' (first | rfl | split)
        all_goals (exfalso; omega)
      obtain ⟨b, hb, hi⟩ := ih k (i + 1) (by omega) (by omega) (by omega) (by omega)
      refine ⟨b, e.trans hb, hi.trans ⟨fun h j h2 h3 => ?_, fun h j h2 h3 => h j (by omega) h3⟩⟩
      rcases Int.lt_or_eq_of_le h2 with h4 | h4
      · exact h j (by omega) h3
      · subst h4; exact hc
    · refine ⟨false, ?_, ⟨(fun h => by cases h), (fun h => absurd (h i (Int.le_refl _) hlt) hc)⟩⟩
      have hc' : ¬ ((97 ≤ bt s i ∧ bt s i ≤ 122) ∨ (bt s i = 46 ∨ bt s i = 45 ∨ (48 ≤ bt s i ∧ bt s i ≤ 57))) := fun h => hc (h.imp id (fun h => ⟨id, h⟩))
      clear hc
      simp only [attr_Name.l0]
      rw [if_pos hlt, if_pos h0, if_pos hlt]
      repeat' (first | rfl | split)
      all_goals (exfalso; omega)
theorem name_ev (s : ByteArray) (hs : s.size ≤ 1099511627776) : ∃ b, Ev (fun k => attr_Name.f k s) b ∧ (b = true ↔ NameOK s) := by
  have bad : ∀ k, attr_Name.j0 (k + 1) s true = some false := fun k => by simp only [attr_Name.j0]; rw [if_pos trivial]
  have fls : ¬ NameOK s → attr_Name.f 1 s = some false → ∃ b, Ev (fun k => attr_Name.f k s) b ∧ (b = true ↔ NameOK s) := fun h e => ⟨false, Ev.of (fun k => attr_Name.mono s k) e, ⟨(fun h => by cases h), (fun h' => absurd h' h)⟩⟩
  by_cases h0 : s.size = 0
  · exact fls (fun h => by have := h.1; omega) (by simp only [attr_Name.f]; rw [if_pos (list_nil.2 h0)]; exact bad 0)
  have hn : ¬ s.toList = [] := fun h => h0 (list_nil.1 h)
  by_cases h1 : (s.size : Int) > 24
  · exact fls (fun h => by have := h.2.1; omega) (by simp only [attr_Name.f]; rw [if_neg hn, if_pos h1]; exact bad 0)
  by_cases h2 : bt s 0 < 97
  · exact fls (fun h => by have := h.2.2 0 (Int.le_refl _) (by omega); unfold chOK at this; simp at this; omega) (by simp only [attr_Name.f]; rw [if_neg hn, if_neg h1, if_pos (by omega), if_pos h2]; exact bad 0)
  by_cases h3 : bt s 0 > 122
  · exact fls (fun h => by have := h.2.2 0 (Int.le_refl _) (by omega); unfold chOK at this; simp at this; omega) (by simp only [attr_Name.f]; rw [if_neg hn, if_neg h1, if_pos (by omega), if_neg h2, decide_eq_true h3]; exact bad 0)
  obtain ⟨b, hb, hi⟩ := name_l0 s hs s.size (s.size + 1) 0 (by omega) (by omega) (by omega) (by omega)
  refine ⟨b, Ev.of (fun k => attr_Name.mono s k) (k := s.size + 2) ?_, hi.trans ⟨fun h => ⟨by omega, by omega, fun j a1 a2 => ?_⟩, fun h j a1 a2 => ?_⟩⟩
  · simp only [attr_Name.f]
    rw [if_neg hn, if_neg h1, if_pos (by omega), if_neg h2, decide_eq_false h3]
    simp only [attr_Name.j0]
    rw [if_neg (by decide)]
    exact hb
  · rcases h j a1 a2 with h4 | ⟨_, h4⟩
    · exact .inl h4
    · by_cases hj : j = 0
      · subst hj
        exact .inl (by omega)
      · exact .inr ⟨hj, h4⟩
  · rcases h.2.2 j a1 a2 with h4 | ⟨_, h4⟩
    · exact .inl h4
    · exact .inr ⟨id, h4⟩

theorem rval_l0 (s : ByteArray) (hs : s.size ≤ 1099511627776) (d : Nat) : ∀ (k : Nat) (i : Int), 0 ≤ i → i ≤ s.size → (s.size : Int) - i = d → d < k →
    ∃ b, chanceryref1_Value.l0 k s (s.size : Int) i = some b ∧ (b = true ↔ (1 ≤ s.size ∧ s.size ≤ 200 ∧ ∀ j : Int, i ≤ j → j < s.size → 32 ≤ bt s j ∧ bt s j ≤ 126)) := by
  induction d with
  | zero =>
    intro k i h0 h1 hd hk
    obtain ⟨k, rfl⟩ : ∃ m, k = m + 1 := ⟨k - 1, by omega⟩
    simp only [chanceryref1_Value.l0]
    rw [if_neg (by omega)]
    by_cases hz : (s.size : Int) ≥ 1
    · rw [if_pos hz]
      refine ⟨_, rfl, ?_⟩
      rw [decide_eq_true_eq]
      exact ⟨fun h => ⟨by omega, by omega, fun j h2 h3 => by omega⟩, fun h => by omega⟩
    · rw [if_neg hz]
      exact ⟨false, rfl, by simp; omega⟩
  | succ d ih =>
    intro k i h0 h1 hd hk
    obtain ⟨k, rfl⟩ : ∃ m, k = m + 1 := ⟨k - 1, by omega⟩
    have hlt : i < (s.size : Int) := by omega
    by_cases hc : 32 ≤ bt s i ∧ bt s i ≤ 126
    · have e : chanceryref1_Value.l0 (k + 1) s (s.size : Int) i = chanceryref1_Value.l0 k s (s.size : Int) (i + 1) := by
        simp only [chanceryref1_Value.l0]
        rw [if_pos hlt, if_pos h0, if_pos hlt, wrap_up h0 (by omega), if_neg (by omega), if_neg (by omega)]
      obtain ⟨b, hb, hi⟩ := ih k (i + 1) (by omega) (by omega) (by omega) (by omega)
      refine ⟨b, e.trans hb, hi.trans ⟨fun ⟨a1, a2, a3⟩ => ⟨a1, a2, fun j h2 h3 => ?_⟩, fun ⟨a1, a2, a3⟩ => ⟨a1, a2, fun j h2 h3 => a3 j (by omega) h3⟩⟩⟩
      rcases Int.lt_or_eq_of_le h2 with h4 | h4
      · exact a3 j (by omega) h3
      · subst h4; exact hc
    · refine ⟨false, ?_, ⟨(fun h => by cases h), (fun h => absurd (h.2.2 i (Int.le_refl _) hlt) hc)⟩⟩
      simp only [chanceryref1_Value.l0]
      rw [if_pos hlt, if_pos h0, if_pos hlt]
      repeat' (first | rfl | split)
      all_goals (exfalso; omega)
theorem rval_ev (s : ByteArray) (hs : s.size ≤ 1099511627776) : ∃ b, Ev (fun k => chanceryref1_Value.f k s) b ∧ (b = true ↔ ValOK s) := by
  obtain ⟨b, hb, hi⟩ := rval_l0 s hs s.size (s.size + 1) 0 (by omega) (by omega) (by omega) (by omega)
  exact ⟨b, Ev.of (fun k => chanceryref1_Value.mono s k) (k := s.size + 1) hb, hi⟩
theorem val_l0 (s : ByteArray) (hs : s.size ≤ 1099511627776) (d : Nat) : ∀ (k : Nat) (i : Int), 0 ≤ i → i ≤ s.size → (s.size : Int) - i = d → d < k →
    ∃ b, attr_Value.l0 k s (s.size : Int) i = some b ∧ (b = true ↔ ∀ j : Int, i ≤ j → j < s.size → 32 ≤ bt s j ∧ bt s j ≤ 126) := by
  induction d with
  | zero =>
    intro k i h0 h1 hd hk
    obtain ⟨k, rfl⟩ : ∃ m, k = m + 1 := ⟨k - 1, by omega⟩
    simp only [attr_Value.l0]
    rw [if_neg (by omega)]
    exact ⟨true, rfl, ⟨fun _ j h2 h3 => by omega, fun _ => rfl⟩⟩
  | succ d ih =>
    intro k i h0 h1 hd hk
    obtain ⟨k, rfl⟩ : ∃ m, k = m + 1 := ⟨k - 1, by omega⟩
    have hlt : i < (s.size : Int) := by omega
    by_cases hc : 32 ≤ bt s i ∧ bt s i ≤ 126
    · have e : attr_Value.l0 (k + 1) s (s.size : Int) i = attr_Value.l0 k s (s.size : Int) (i + 1) := by
        simp only [attr_Value.l0]
        rw [if_pos hlt, if_pos h0, if_pos hlt, wrap_up h0 (by omega), if_neg (by omega), if_neg (by omega)]
      obtain ⟨b, hb, hi⟩ := ih k (i + 1) (by omega) (by omega) (by omega) (by omega)
      refine ⟨b, e.trans hb, hi.trans ⟨fun h j h2 h3 => ?_, fun h j h2 h3 => h j (by omega) h3⟩⟩
      rcases Int.lt_or_eq_of_le h2 with h4 | h4
      · exact h j (by omega) h3
      · subst h4; exact hc
    · refine ⟨false, ?_, ⟨(fun h => by cases h), (fun h => absurd (h i (Int.le_refl _) hlt) hc)⟩⟩
      simp only [attr_Value.l0]
      rw [if_pos hlt, if_pos h0, if_pos hlt]
      repeat' (first | rfl | split)
      all_goals (exfalso; omega)
theorem val_ev (s : ByteArray) (hs : s.size ≤ 1099511627776) : ∃ b, Ev (fun k => attr_Value.f k s) b ∧ (b = true ↔ ValOK s) := by
  have bad : ∀ k, attr_Value.j0 (k + 1) s true = some false := fun k => by simp only [attr_Value.j0]; rw [if_pos trivial]
  have fls : ¬ ValOK s → attr_Value.f 1 s = some false → ∃ b, Ev (fun k => attr_Value.f k s) b ∧ (b = true ↔ ValOK s) := fun h e => ⟨false, Ev.of (fun k => attr_Value.mono s k) e, ⟨(fun h => by cases h), (fun h' => absurd h' h)⟩⟩
  by_cases h0 : s.size = 0
  · exact fls (fun h => by have := h.1; omega) (by simp only [attr_Value.f]; rw [if_pos (list_nil.2 h0)]; exact bad 0)
  have hn : ¬ s.toList = [] := fun h => h0 (list_nil.1 h)
  by_cases h1 : (s.size : Int) > 200
  · exact fls (fun h => by have := h.2.1; omega) (by simp only [attr_Value.f]; rw [if_neg hn, decide_eq_true h1]; exact bad 0)
  obtain ⟨b, hb, hi⟩ := val_l0 s hs s.size (s.size + 1) 0 (by omega) (by omega) (by omega) (by omega)
  refine ⟨b, Ev.of (fun k => attr_Value.mono s k) (k := s.size + 2) ?_, hi.trans ⟨fun h => ⟨by omega, by omega, h⟩, fun h => h.2.2⟩⟩
  simp only [attr_Value.f]
  rw [if_neg hn, decide_eq_false h1]
  simp only [attr_Value.j0]
  rw [if_neg (by decide)]
  exact hb
end Go.Proofs.YtdgemabmmomebaaDoor.PFlow

/- Sets of ranges: what Check accepts; two canonical sets with the same elements are one; sizes count elements. -/
import Derived.Test.YtdgemabmmomebaaSpanPlug
namespace Go.Proofs.Ytdgemabmmomebaa.PSpan
open Go.RowKit Go.Proofs.YtdgemabmmomebaaW.PrintWords Go.Proofs.YtdgemabmmomebaaW.PrintLast Go.Proofs.YtdgemabmmomebaaW.PrintMore
set_option linter.unusedVariables false

theorem wrap_up {i : Int} (h0 : 0 ≤ i) (h : i ≤ 1099511627776) : wrap64 (i + 1) = i + 1 := by unfold wrap64; omega
theorem wrap_dn {i : Int} (h0 : 0 ≤ i) (h : i ≤ 1099511627776) : wrap64 (i - 1) = i - 1 := by unfold wrap64; omega
theorem wrap_in {i : Int} (h0 : -1099511627776 ≤ i) (h : i ≤ 1099511627776) : wrap64 i = i := by unfold wrap64; omega

def SOK (s : S29) : Prop := 0 ≤ s.f0 ∧ s.f0 < s.f1 ∧ s.f1 ≤ 2147483647
def Canon (l : List S29) : Prop := (∀ s ∈ l, SOK s) ∧ l.Pairwise (fun s t => s.f1 < t.f0)
def EL (l : List S29) (j : Int) : Prop := SOK (rd_T29 l j) ∧ (0 < j → (rd_T29 l (j - 1)).f1 < (rd_T29 l j).f0)

theorem rd_get {l : List S29} {i : Int} (h0 : 0 ≤ i) (h : i < l.length) : rd_T29 l i = l[i.toNat]'(by omega) := by
  simp only [rd_T29, List.getD_eq_getElem?_getD, List.getElem?_eq_getElem (show i.toNat < l.length by omega), Option.getD_some]
theorem rd_mem {l : List S29} {i : Int} (h0 : 0 ≤ i) (h : i < l.length) : rd_T29 l i ∈ l := by
  rw [rd_get h0 h]; exact List.getElem_mem _
theorem rd_cons {x : S29} {l : List S29} {i : Int} (h0 : 0 ≤ i) : rd_T29 (x :: l) (i + 1) = rd_T29 l i := by
  have : (i + 1).toNat = i.toNat + 1 := by omega
  simp [rd_T29, this]
theorem mem_rd {l : List S29} {x : S29} (h : x ∈ l) : ∃ i : Int, 0 ≤ i ∧ i < l.length ∧ rd_T29 l i = x := by
  obtain ⟨j, hj, e⟩ := List.getElem_of_mem h
  exact ⟨(j : Int), by omega, by omega, by simp [rd_T29, List.getD_eq_getElem?_getD, List.getElem?_eq_getElem hj, e]⟩
theorem canon_of_el (l : List S29) (h : ∀ j : Int, 0 ≤ j → j < l.length → EL l j) : Canon l := by
  refine ⟨fun x hx => ?_, ?_⟩
  · obtain ⟨i, h0, h1, rfl⟩ := mem_rd hx
    exact (h i h0 h1).1
  · have hok : ∀ x ∈ l, x.f0 < x.f1 := fun x hx => by
      obtain ⟨i, h0, h1, rfl⟩ := mem_rd hx
      exact (h i h0 h1).1.2.1
    have h' : ∀ j : Int, 0 < j → j < l.length → (rd_T29 l (j - 1)).f1 < (rd_T29 l j).f0 := fun j h0 h1 => (h j (by omega) h1).2 h0
    clear h
    induction l with
    | nil => exact List.Pairwise.nil
    | cons x l ih =>
      have hs : l.Pairwise (fun s t => s.f1 < t.f0) := ih (fun y hy => hok y (List.mem_cons_of_mem _ hy)) (fun j h0 h1 => by
        have := h' (j + 1) (by omega) (by simp; omega)
        rw [rd_cons (by omega), show j + 1 - 1 = (j - 1) + 1 by omega, rd_cons (by omega)] at this
        exact this)
      refine List.Pairwise.cons (fun y hy => ?_) hs
      cases l with
      | nil => cases hy
      | cons z t =>
        have hxz : x.f1 < z.f0 := by
          have := h' 1 (by omega) (by simp; omega)
          simpa [rd_T29] using this
        rcases List.mem_cons.1 hy with rfl | hy
        · exact hxz
        · have h1 := (List.pairwise_cons.1 hs).1 y hy
          have h2 := hok z (by simp)
          omega
theorem el_of_canon (l : List S29) (h : Canon l) : ∀ j : Int, 0 ≤ j → j < l.length → EL l j := by
  intro j h0 h1
  refine ⟨h.1 _ (rd_mem h0 h1), fun hj => ?_⟩
  rw [rd_get (by omega) (by omega), rd_get h0 h1]
  exact List.pairwise_iff_getElem.1 h.2 (j - 1).toNat j.toNat (by omega) (by omega) (by omega)

theorem chk_l0 (l : List S29) (hs : l.length ≤ 1099511627776) (d : Nat) : ∀ i : Int, 0 ≤ i → i ≤ l.length → (l.length : Int) - i = d →
    ∃ r : Int, Ev (fun k => span_Check.l0 k l l (l.length : Int) i) r ∧ (r = 0 ↔ ∀ j : Int, i ≤ j → j < l.length → EL l j) := by
  induction d with
  | zero =>
    intro i h0 h1 hd
    refine ⟨0, Ev.step (f := fun _ => some 0) (fun k => ?_) (Ev.now 0), ⟨fun _ j h2 h3 => by omega, fun _ => rfl⟩⟩
    simp only [span_Check.l0]
    rw [if_neg (by omega)]
  | succ d ih =>
    intro i h0 h1 hd
    have hlt : i < (l.length : Int) := by omega
    have key : ∀ bad : Bool, (bad = false ↔ SOK (rd_T29 l i)) →
        ∃ r : Int, Ev (fun k => span_Check.j1 k l i l (l.length : Int) i bad (rd_T29 l i).f0 (rd_T29 l i).f1) r ∧ (r = 0 ↔ ∀ j : Int, i ≤ j → j < l.length → EL l j) := by
      intro bad hbad
      cases bad with
      | true =>
        refine ⟨2, Ev.step (fun k => by simp only [span_Check.j1]; rw [if_pos (by decide)]) (Ev.now 2), ⟨fun h => by omega, fun h => ?_⟩⟩
        exact absurd (hbad.2 (h i (Int.le_refl _) hlt).1) (by decide)
      | false =>
        have hel := hbad.1 rfl
        obtain ⟨r, hr, hri⟩ := ih (i + 1) (by omega) (by omega) (by omega)
        by_cases hi : i > 0
        · by_cases hle : (rd_T29 l i).f0 ≤ (rd_T29 l (i - 1)).f1
          · refine ⟨5, Ev.step (fun k => by
              simp only [span_Check.j1]
              rw [if_neg (by decide), if_pos hi, wrap_dn h0 (by omega), if_pos (by omega), if_pos (by omega), if_pos hle]) (Ev.now 5), ⟨fun h => by omega, fun h => ?_⟩⟩
            have := (h i (Int.le_refl _) hlt).2 hi
            omega
          · refine ⟨r, Ev.step (fun k => by
              simp only [span_Check.j1]
              rw [if_neg (by decide), if_pos hi, wrap_dn h0 (by omega), if_pos (by omega), if_pos (by omega), if_neg hle, wrap_up h0 (by omega)]) hr, hri.trans ⟨fun h j h2 h3 => ?_, fun h j h2 h3 => h j (by omega) h3⟩⟩
            rcases Int.lt_or_eq_of_le h2 with h4 | h4
            · exact h j (by omega) h3
            · subst h4; exact ⟨hel, fun _ => by omega⟩
        · refine ⟨r, Ev.step (fun k => by
            simp only [span_Check.j1]
            rw [if_neg (by decide), if_neg hi, wrap_up h0 (by omega)]) hr, hri.trans ⟨fun h j h2 h3 => ?_, fun h j h2 h3 => h j (by omega) h3⟩⟩
          rcases Int.lt_or_eq_of_le h2 with h4 | h4
          · exact h j (by omega) h3
          · subst h4; exact ⟨hel, fun h => absurd h hi⟩
    by_cases q1 : (rd_T29 l i).f0 < 0
    · obtain ⟨r, hr, hri⟩ := key true ⟨(fun h => by cases h), (fun h => by have := h.1; omega)⟩
      exact ⟨r, Ev.step (fun k => by simp only [span_Check.l0]; rw [if_pos hlt, if_pos h0, if_pos hlt, if_pos q1]) hr, hri⟩
    · by_cases q2 : (rd_T29 l i).f1 ≤ (rd_T29 l i).f0
      · obtain ⟨r, hr, hri⟩ := key true ⟨(fun h => by cases h), (fun h => by have := h.2.1; omega)⟩
        exact ⟨r, Ev.step (fun k => by simp only [span_Check.l0]; rw [if_pos hlt, if_pos h0, if_pos hlt, if_neg q1, if_pos q2]) hr, hri⟩
      · obtain ⟨r, hr, hri⟩ := key (decide ((rd_T29 l i).f1 > 2147483647)) (by
          rw [decide_eq_false_iff_not]
          exact ⟨fun h => ⟨by omega, by omega, by omega⟩, fun h => by have := h.2.2; omega⟩)
        exact ⟨r, Ev.step (fun k => by simp only [span_Check.l0]; rw [if_pos hlt, if_pos h0, if_pos hlt, if_neg q1, if_neg q2]) hr, hri⟩
theorem chk_ev (l : List S29) (hs : l.length ≤ 1099511627776) : ∃ r : Int, Ev (fun k => span_Check.f k l) r ∧ (r = 0 ↔ Canon l) := by
  obtain ⟨r, hr, hri⟩ := chk_l0 l hs l.length 0 (by omega) (by omega) (by omega)
  exact ⟨r, hr, hri.trans ⟨fun h => canon_of_el l h, fun h j h0 h1 => el_of_canon l h j h0 h1⟩⟩

/-! ### elements -/
def ins (s : S29) (x : Int) : Bool := decide (s.f0 ≤ x) && decide (x < s.f1)
def mem (l : List S29) (x : Int) : Bool := l.any (fun s => ins s x)
theorem ins_iff {s : S29} {x : Int} : ins s x = true ↔ s.f0 ≤ x ∧ x < s.f1 := by simp [ins]
theorem mem_iff {l : List S29} {x : Int} : mem l x = true ↔ ∃ s ∈ l, s.f0 ≤ x ∧ x < s.f1 := by simp [mem, ins]
theorem mem_cons {s : S29} {l : List S29} {x : Int} : mem (s :: l) x = (ins s x || mem l x) := rfl
theorem mem_none {l : List S29} {x : Int} (h : ∀ s ∈ l, s.f1 ≤ x ∨ x < s.f0) : mem l x = false := by
  rw [Bool.eq_false_iff]
  intro hm
  obtain ⟨s, hs, h1, h2⟩ := mem_iff.1 hm
  rcases h s hs with h | h <;> omega
theorem canon_cons {s : S29} {l : List S29} (h : Canon (s :: l)) : SOK s ∧ Canon l ∧ ∀ t ∈ l, s.f1 < t.f0 :=
  ⟨h.1 s List.mem_cons_self, ⟨fun t ht => h.1 t (List.mem_cons_of_mem _ ht), (List.pairwise_cons.1 h.2).2⟩, (List.pairwise_cons.1 h.2).1⟩

theorem canon_ext {l l' : List S29} (h : Canon l) (h' : Canon l') (e : ∀ x : Int, 0 ≤ x → mem l x = mem l' x) : l = l' := by
  induction l generalizing l' with
  | nil =>
    cases l' with
    | nil => rfl
    | cons s t =>
      obtain ⟨hs, _, _⟩ := canon_cons h'
      have := e s.f0 hs.1
      rw [mem_cons, ins_iff.2 ⟨Int.le_refl _, hs.2.1⟩] at this
      cases this
  | cons s t ih =>
    cases l' with
    | nil =>
      obtain ⟨hs, _, _⟩ := canon_cons h
      have := e s.f0 hs.1
      rw [mem_cons, ins_iff.2 ⟨Int.le_refl _, hs.2.1⟩] at this
      cases this
    | cons s' t' =>
      obtain ⟨hs, ht, hst⟩ := canon_cons h
      obtain ⟨hs', ht', hst'⟩ := canon_cons h'
      have low : ∀ {u : S29} {v : List S29}, SOK u → (∀ t ∈ v, u.f1 < t.f0) → ∀ x, mem (u :: v) x = true → u.f0 ≤ x := fun hu hv x hx => by
        obtain ⟨q, hq, h1, h2⟩ := mem_iff.1 hx
        rcases List.mem_cons.1 hq with rfl | hq
        · exact h1
        · have := hv q hq; have := hu.2.1; omega
      have e1 : s.f0 = s'.f0 := by
        have a1 := low hs' hst' s.f0 (by rw [← e _ hs.1, mem_cons, ins_iff.2 ⟨Int.le_refl _, hs.2.1⟩]; rfl)
        have a2 := low hs hst s'.f0 (by rw [e _ hs'.1, mem_cons, ins_iff.2 ⟨Int.le_refl _, hs'.2.1⟩]; rfl)
        omega
      have nxt : ∀ {u : S29} {v : List S29}, (∀ t ∈ v, u.f1 < t.f0) → mem (u :: v) u.f1 = false := fun hv => by
        refine mem_none (fun q hq => ?_)
        rcases List.mem_cons.1 hq with rfl | hq
        · exact .inl (Int.le_refl _)
        · exact .inr (hv q hq)
      have e2 : s.f1 = s'.f1 := by
        have b1 : ¬ s.f1 < s'.f1 := fun hlt => by
          have := e s.f1 (by have := hs.1; have := hs.2.1; omega)
          rw [nxt hst, mem_cons, ins_iff.2 ⟨by have := hs.2.1; omega, hlt⟩] at this
          cases this
        have b2 : ¬ s'.f1 < s.f1 := fun hlt => by
          have := e s'.f1 (by have := hs'.1; have := hs'.2.1; omega)
          rw [nxt hst', mem_cons, ins_iff.2 ⟨by have := hs'.2.1; omega, hlt⟩] at this
          cases this
        omega
      have hss : s = s' := by cases s; cases s'; simp_all
      subst hss
      congr 1
      refine ih ht ht' (fun x hx => ?_)
      by_cases hin : ins s x = true
      · have := (ins_iff.1 hin).2
        rw [mem_none (l := t) (fun q hq => .inr (by have := hst q hq; omega)), mem_none (l := t') (fun q hq => .inr (by have := hst' q hq; omega))]
      · have := e x hx
        rw [mem_cons, mem_cons, Bool.eq_false_iff.2 hin] at this
        simpa using this

/-! ### sizes -/
def cnt (p : Int → Bool) : Nat → Int
  | 0 => 0
  | n + 1 => cnt p n + if p n = true then 1 else 0
theorem cnt_or (p q : Int → Bool) (n : Nat) : cnt (fun x => p x || q x) n + cnt (fun x => p x && q x) n = cnt p n + cnt q n := by
  induction n with
  | zero => rfl
  | succ n ih =>
    simp only [cnt]
    rcases Bool.eq_false_or_eq_true (p (n : Int)) with hp | hp <;> rcases Bool.eq_false_or_eq_true (q (n : Int)) with hq | hq <;> simp [hp, hq] <;> omega
theorem cnt_congr {p q : Int → Bool} {n : Nat} (h : ∀ x : Int, 0 ≤ x → p x = q x) : cnt p n = cnt q n := by
  induction n with
  | zero => rfl
  | succ n ih => simp only [cnt]; rw [ih, h n (by omega)]
theorem cnt_none {p : Int → Bool} {n : Nat} (h : ∀ x : Int, 0 ≤ x → p x = false) : cnt p n = 0 := by
  induction n with
  | zero => rfl
  | succ n ih => simp only [cnt]; rw [ih, h n (by omega)]; rfl
theorem cnt_ins {s : S29} (h : SOK s) (n : Nat) : cnt (ins s) n = if (n : Int) ≤ s.f0 then 0 else if (n : Int) ≤ s.f1 then n - s.f0 else s.f1 - s.f0 := by
  obtain ⟨h0, h1, h2⟩ := h
  induction n with
  | zero => simp only [cnt]; rw [if_pos (by omega)]
  | succ n ih =>
    simp only [cnt]
    rw [ih]
    by_cases a : s.f0 ≤ (n : Int) ∧ (n : Int) < s.f1
    · rw [if_pos (ins_iff.2 a)]
      repeat' split
      all_goals omega
    · rw [if_neg (fun h => a (ins_iff.1 h))]
      repeat' split
      all_goals omega
def sizeL (l : List S29) : Int := (l.map fun s => s.f1 - s.f0).sum
theorem sizeL_cons (s : S29) (l : List S29) : sizeL (s :: l) = (s.f1 - s.f0) + sizeL l := by simp [sizeL]
def BIG : Nat := 2147483648
theorem size_cnt {l : List S29} (h : Canon l) : sizeL l = cnt (mem l) BIG := by
  induction l with
  | nil => exact (cnt_none (fun x _ => rfl)).symm
  | cons s l ih =>
    obtain ⟨hs, hl, hsl⟩ := canon_cons h
    have h1 := cnt_or (ins s) (mem l) BIG
    have h2 : cnt (fun x => ins s x && mem l x) BIG = 0 := cnt_none (fun x _ => by
      by_cases hin : ins s x = true
      · have := (ins_iff.1 hin).2
        rw [mem_none (l := l) (fun q hq => .inr (by have := hsl q hq; omega)), Bool.and_false]
      · rw [Bool.eq_false_iff.2 hin, Bool.false_and])
    have h3 := cnt_ins hs BIG
    have := hs.2.2
    have := hs.2.1
    unfold BIG at h3
    rw [if_neg (by omega), if_neg (by omega)] at h3
    rw [sizeL_cons, ih hl]
    show _ = cnt (fun x => ins s x || mem l x) BIG
    unfold BIG at *
    omega
theorem cnt_bd (p : Int → Bool) (n : Nat) : 0 ≤ cnt p n ∧ cnt p n ≤ n := by
  induction n with
  | zero => simp [cnt]
  | succ n ih => simp only [cnt]; split <;> omega
theorem size_bd {l : List S29} (h : Canon l) : 0 ≤ sizeL l ∧ sizeL l ≤ 2147483648 := by
  have := cnt_bd (mem l) BIG
  rw [size_cnt h]
  unfold BIG at *
  omega
end Go.Proofs.Ytdgemabmmomebaa.PSpan

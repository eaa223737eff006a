/- Parts of the proof of Undo: nothing is claimed here by itself. -/
import Derived.Test.YtdgemabmmomebaaKUndo5
import Derived.StillTailTactics
section
namespace Go.Proofs.Ytdgemabmmomebaa.PDelta
open Go.RowKit Go.Proofs.YtdgemabmmomebaaW.PrintWords Go.Proofs.YtdgemabmmomebaaW.PrintLast Go.Proofs.YtdgemabmmomebaaW.PrintMore
set_option linter.unusedVariables false
set_option linter.unusedSimpArgs false
theorem stepok_kind {s : S70} (h : StepOK s) : s.f0 = 0 ∨ s.f0 = 1 ∨ s.f0 = 2 := by rcases h with h | h | h <;> omega
theorem rcheck_l0 (d : List S70) (hs : DSm d) (n : Nat) : ∀ (i : Nat) (b a : Int), i + n = d.length → 0 ≤ b → b ≤ 4294967296 → 0 ≤ a → a ≤ 4294967296 → (∀ q, prev d i = some q → q.f0 = 0 ∨ q.f0 = 1 ∨ q.f0 = 2) →
    ∃ r : Int, Ev (fun k => chanceryref1_DeltaError.l0 k d b a (d.length : Int) (i : Int)) r ∧ (r = 0 ↔ RestOK (prev d i) (d.drop i) b a) := by
  have hs1 := hs.1
  induction n with
  | zero =>
    intro i b a hi hb0 hb ha0 ha hpv
    have e : ∀ k, chanceryref1_DeltaError.l0 (k + 1) d b a (d.length : Int) (i : Int) = if b > 2147483647 then some 3 else if a > 2147483647 then some 3 else some 0 := fun k => by
      simp only [chanceryref1_DeltaError.l0]
      rw [if_neg (by omega)]
    rw [List.drop_eq_nil_of_le (by omega)]
    have hR : RestOK (prev d i) [] b a ↔ b ≤ 2147483647 ∧ a ≤ 2147483647 := ⟨fun h => by have := h.2.2; simp [old, new] at this; exact this, fun h => ⟨(fun s hs => by cases hs), trivial, by simp [old]; exact h.1, by simp [new]; exact h.2⟩⟩
    rw [hR]
    by_cases h1 : b > 2147483647
    · exact ⟨3, Ev.step (f := fun _ => some 3) (fun k => by rw [e, if_pos h1]) (Ev.now 3), ⟨fun h => by omega, fun h => by omega⟩⟩
    by_cases h2 : a > 2147483647
    · exact ⟨3, Ev.step (f := fun _ => some 3) (fun k => by rw [e, if_neg h1, if_pos h2]) (Ev.now 3), ⟨fun h => by omega, fun h => by omega⟩⟩
    exact ⟨0, Ev.step (f := fun _ => some 0) (fun k => by rw [e, if_neg h1, if_neg h2]) (Ev.now 0), ⟨fun h => by omega, fun h => rfl⟩⟩
  | succ n ih =>
    intro i b a hi hb0 hb ha0 ha hpv
    have hlt : i < d.length := by omega
    have hsm := hs.2 _ (rd70_mem hlt)
    rw [drop_T70 d i hlt]
    obtain ⟨r0, hr0, hri0⟩ := rstep_ev _ hsm
    obtain ⟨s, hsd⟩ : ∃ s, s = rd_T70 d (i : Int) := ⟨_, rfl⟩
    rw [← hsd] at hsm hr0 hri0
    rw [rest_cons, ← hsd]
    have hrs : ∀ x ∈ d.drop (i + 1), SSm x := fun x hx => hs.2 x (List.mem_of_mem_drop hx)
    have j1 : StepOK s → ∃ r : Int, Ev (fun k => chanceryref1_DeltaError.j1 k d b a (d.length : Int) (i : Int) s.f0 s.f1 s.f2 s.f3) r ∧ (r = 0 ↔ RestOK (some s) (d.drop (i + 1)) (b + oldS s) (a + newS s)) := by
      intro hok
      have ho := oldS_nn hok
      have hn := newS_nn hok hsm
      have pe : prev d (i + 1) = some s := by rw [prev, hsd]
      have hl3 := hsm.2.1
      obtain ⟨b', hb'⟩ : ∃ b', b' = if s.f0 ≠ 1 ∧ b < 2147483648 then b + s.f1 else b := ⟨_, rfl⟩
      obtain ⟨a', ha'⟩ : ∃ a', a' = if s.f0 ≠ 2 ∧ a < 2147483648 then a + (s.f1 + (s.f3.length : Int)) else a := ⟨_, rfl⟩
      have hl : s.f0 = 1 → s.f1 = 0 := fun h => by rcases hok with h' | h' | h' <;> omega
      have hl2 : s.f0 ≠ 1 → s.f3 = [] ∧ 1 ≤ s.f1 ∧ s.f1 ≤ 2147483647 := fun h => by
        rcases hok with h' | h' | h'
        · exact ⟨h'.2.2.2.1, h'.2.1, h'.2.2.1⟩
        · omega
        · exact ⟨h'.2.2.2.1, h'.2.1, h'.2.2.1⟩
      have hlen : s.f0 ≠ 1 → (s.f3.length : Int) = 0 := fun h => by rw [(hl2 h).1]; rfl
      have hf1 : 0 ≤ s.f1 ∧ s.f1 ≤ 2147483647 := by
        by_cases h : s.f0 = 1
        · rw [hl h]; omega
        · have := hl2 h; omega
      have bb : 0 ≤ b' ∧ b' ≤ 4294967296 := by rw [hb']; split <;> omega
      have aa : 0 ≤ a' ∧ a' ≤ 4294967296 := by rw [ha']; split <;> omega
      obtain ⟨r, hr, hri⟩ := ih (i + 1) b' a' (by omega) bb.1 bb.2 aa.1 aa.2 (fun q hq => by rw [pe] at hq; cases hq; exact stepok_kind hok)
      refine ⟨r, ?_, hri.trans ?_⟩
      · have last : ∀ k, chanceryref1_DeltaError.j2 (k + 1) d b a (d.length : Int) (i : Int) (decide (s.f0 ≠ 1 ∧ b < 2147483648)) s.f0 s.f1 s.f2 s.f3 = chanceryref1_DeltaError.l0 k d b' a' (d.length : Int) ((i + 1 : Nat) : Int) := fun k => by
          simp only [chanceryref1_DeltaError.j2]
          rw [wrap_up (by omega) (by omega), w64 (i := b + s.f1) (by omega) (by omega), w64 (i := s.f1 + (s.f3.length : Int)) (by omega) (by omega), w64 (i := a + (s.f1 + (s.f3.length : Int))) (by omega) (by omega), hb', ha']
          by_cases g0 : s.f0 = 1 <;> by_cases g1 : b < 2147483648 <;> by_cases g2 : s.f0 = 2 <;> by_cases g3 : a < 2147483648 <;> simp [g0, g1, g2, g3]
        refine Ev.step (fun k => ?_) (Ev.step (g := fun k => chanceryref1_DeltaError.j2 k d b a (d.length : Int) (i : Int) (decide (s.f0 ≠ 1 ∧ b < 2147483648)) s.f0 s.f1 s.f2 s.f3) last hr)
        simp only [chanceryref1_DeltaError.j1]
        by_cases h1 : s.f0 = 1
        · rw [if_pos h1, decide_eq_false (fun h => h.1 h1)]
        · rw [if_neg h1]
          congr 1
          exact decide_eq_decide.mpr ⟨fun h => ⟨h1, h⟩, fun h => h.2⟩
      · rw [pe]
        have e1 : oldS s = if s.f0 = 1 then 0 else s.f1 := rfl
        have e2 : newS s = if s.f0 = 2 then 0 else s.f1 + (s.f3.length : Int) := by
          unfold newS
          split
          · rfl
          · split
            · rw [hl (by assumption)]; omega
            · rw [hlen (by assumption)]; omega
        refine rest_cap hrs ?_ ?_
        · rw [hb', e1]; split <;> split <;> omega
        · rw [ha', e2]; split <;> split <;> omega
    have e0 : ∀ k, chanceryref1_DeltaError.l0 (k + 1) d b a (d.length : Int) (i : Int) = (chanceryref1_StepError.f k s.f0 s.f1 s.f2 s.f3).bind fun t => if t = 0 then (if (i : Int) > 0 then
        (if s.f0 = 1 then (if (rd_T70 d ((i : Int) - 1)).f0 = 0 then chanceryref1_DeltaError.j1 k d b a (d.length : Int) (i : Int) s.f0 s.f1 s.f2 s.f3 else some 5)
         else (if s.f0 = 2 then (if (rd_T70 d ((i : Int) - 1)).f0 = 2 then some 5 else chanceryref1_DeltaError.j1 k d b a (d.length : Int) (i : Int) s.f0 s.f1 s.f2 s.f3)
          else (if (rd_T70 d ((i : Int) - 1)).f0 = 0 then (chanceryref1_SameAttrs.f k (rd_T70 d ((i : Int) - 1)).f2 s.f2).bind fun t => (if t = true then some 5 else chanceryref1_DeltaError.j1 k d b a (d.length : Int) (i : Int) s.f0 s.f1 s.f2 s.f3) else chanceryref1_DeltaError.j1 k d b a (d.length : Int) (i : Int) s.f0 s.f1 s.f2 s.f3)))
        else chanceryref1_DeltaError.j1 k d b a (d.length : Int) (i : Int) s.f0 s.f1 s.f2 s.f3) else some t := fun k => by
      simp only [chanceryref1_DeltaError.l0]
      rw [if_pos (by omega), if_pos (by omega), if_pos (by omega), ← hsd]
      by_cases h0 : (i : Int) > 0
      · rw [wrap_dn (by omega) (by omega), if_pos (show (0 : Int) ≤ (i : Int) - 1 by omega), if_pos (show (i : Int) - 1 < (d.length : Int) by omega)]
      · simp only [if_neg h0]
    have bad : ∀ (c : Int), c ≠ 0 → Ev (fun k => chanceryref1_DeltaError.l0 k d b a (d.length : Int) (i : Int)) c → ¬ (StepOK s ∧ (∀ q, prev d i = some q → Adj q s) ∧ RestOK (some s) (d.drop (i + 1)) (b + oldS s) (a + newS s)) →
        ∃ r : Int, Ev (fun k => chanceryref1_DeltaError.l0 k d b a (d.length : Int) (i : Int)) r ∧ (r = 0 ↔ (StepOK s ∧ (∀ q, prev d i = some q → Adj q s) ∧ RestOK (some s) (d.drop (i + 1)) (b + oldS s) (a + newS s))) := fun c hc he hn => ⟨c, he, ⟨fun h => absurd h hc, fun h => absurd h hn⟩⟩
    by_cases hz : r0 = 0
    rotate_left
    · exact bad r0 hz (Ev.step e0 (Ev.bind hr0 (Ev.congr (fun k => by rw [if_neg hz]) (Ev.now r0)))) (fun h => hz (hri0.2 h.1))
    have hok := hri0.1 hz
    subst hz
    obtain ⟨r, hr, hri⟩ := j1 hok
    by_cases hi0 : i = 0
    · subst hi0
      exact ⟨r, Ev.step e0 (Ev.bind hr0 (Ev.congr (fun k => by rw [if_pos rfl, if_neg (by omega)]) hr)), hri.trans ⟨fun h => ⟨hok, (fun q hq => by cases hq), h⟩, fun h => h.2.2⟩⟩
    have hpos : (i : Int) > 0 := by omega
    have hap := adj_prev (d := d) (i := i) (by omega) True
    rw [← hsd] at hap
    rw [hap] at bad ⊢
    obtain ⟨p, hp⟩ : ∃ p, p = rd_T70 d ((i : Int) - 1) := ⟨_, rfl⟩
    rw [← hp] at hap bad e0 ⊢
    have hpsm : SSm p := by
      have := hs.2 _ (rd70_mem (l := d) (i := i - 1) (by omega))
      rw [show ((i - 1 : Nat) : Int) = (i : Int) - 1 by omega, ← hp] at this
      exact this
    have hpk := hpv p (by
      obtain ⟨j, rfl⟩ : ∃ j, i = j + 1 := ⟨i - 1, by omega⟩
      rw [prev, hp, show ((j + 1 : Nat) : Int) - 1 = (j : Int) by omega])
    have hsk := stepok_kind hok
    have good : Adj p s → (∀ k, chanceryref1_DeltaError.l0 (k + 1) d b a (d.length : Int) (i : Int) = (chanceryref1_StepError.f k s.f0 s.f1 s.f2 s.f3).bind fun t => if t = 0 then chanceryref1_DeltaError.j1 k d b a (d.length : Int) (i : Int) s.f0 s.f1 s.f2 s.f3 else some t) → ∃ r : Int, Ev (fun k => chanceryref1_DeltaError.l0 k d b a (d.length : Int) (i : Int)) r ∧ (r = 0 ↔ (StepOK s ∧ Adj p s ∧ RestOK (some s) (d.drop (i + 1)) (b + oldS s) (a + newS s))) :=
      fun h1 h2 => ⟨r, Ev.step h2 (Ev.bind hr0 (Ev.congr (fun k => by rw [if_pos rfl]) hr)), hri.trans ⟨fun h => ⟨hok, h1, h⟩, fun h => h.2.2⟩⟩
    by_cases h1 : s.f0 = 1
    · by_cases h0 : p.f0 = 0
      · refine good ⟨fun h => by omega, fun h => by omega⟩ (fun k => ?_)
        rw [e0]
        congr 1
        funext t
        rw [if_pos hpos, if_pos h1, if_pos h0]
      · exact bad 5 (by decide) (Ev.step e0 (Ev.bind hr0 (Ev.congr (fun k => by rw [if_pos rfl, if_pos hpos, if_pos h1, if_neg h0]) (Ev.now 5)))) (fun h => by
          rcases hpk with h' | h' | h'
          · exact h0 h'
          · exact h.2.1.1 ⟨by omega, .inl (by omega)⟩
          · exact h.2.1.2 ⟨h', h1⟩)
    by_cases h2 : s.f0 = 2
    · by_cases h0 : p.f0 = 2
      · exact bad 5 (by decide) (Ev.step e0 (Ev.bind hr0 (Ev.congr (fun k => by rw [if_pos rfl, if_pos hpos, if_neg h1, if_pos h2, if_pos h0]) (Ev.now 5)))) (fun h => h.2.1.1 ⟨by omega, .inl (by omega)⟩)
      · refine good ⟨fun h => by omega, fun h => by omega⟩ (fun k => ?_)
        rw [e0]
        congr 1
        funext t
        rw [if_pos hpos, if_neg h1, if_pos h2, if_neg h0]
    have hs0 : s.f0 = 0 := by omega
    by_cases h0 : p.f0 = 0
    · obtain ⟨c, hc, hci⟩ := rsame_ev p.f2 s.f2 hpsm.1.1
      cases c with
      | true =>
        exact bad 5 (by decide) (Ev.step e0 (Ev.bind hr0 (Ev.congr (fun k => by rw [if_pos rfl, if_pos hpos, if_neg h1, if_neg h2, if_pos h0]) (Ev.bind hc (Ev.congr (fun k => by rw [if_pos rfl]) (Ev.now 5)))))) (fun h => h.2.1.1 ⟨by omega, .inr (hci.1 rfl)⟩)
      | false =>
        have hne : p.f2 ≠ s.f2 := fun h => by have := hci.2 h; cases this
        refine ⟨r, Ev.step e0 (Ev.bind hr0 (Ev.congr (fun k => by rw [if_pos rfl, if_pos hpos, if_neg h1, if_neg h2, if_pos h0]) (Ev.bind hc (Ev.congr (fun k => by rw [if_neg (by decide)]) hr)))), hri.trans ⟨fun h => ⟨hok, ⟨fun h => ?_, fun h => by omega⟩, h⟩, fun h => h.2.2⟩⟩
        rcases h.2 with h | h
        · exact h hs0
        · exact hne h
    · refine good ⟨fun h => by omega, fun h => by omega⟩ (fun k => ?_)
      rw [e0]
      congr 1
      funext t
      rw [if_pos hpos, if_neg h1, if_neg h2, if_neg h0]
theorem rcheck_ev (d : List S70) (hs : DSm d) : ∃ r : Int, Ev (fun k => chanceryref1_DeltaError.f k d) r ∧ (r = 0 ↔ DOK d) := by
  obtain ⟨r, hr, hri⟩ := rcheck_l0 d hs d.length 0 0 0 (by omega) (by omega) (by omega) (by omega) (by omega) (fun q hq => by cases hq)
  exact ⟨r, hr, hri.trans (dok_rest d)⟩
theorem lengths_l0 (d : List S70) (hs : DSm d) (hok : ∀ s ∈ d, StepOK s) (n : Nat) : ∀ (i : Nat) (b a : Int), i + n = d.length → 0 ≤ b → 0 ≤ a → b + old (d.drop i) ≤ 2147483647 → a + new (d.drop i) ≤ 2147483647 →
    Ev (fun k => delta_lengths.l0 k b a d (d.length : Int) (i : Int)) (b + old (d.drop i), a + new (d.drop i)) := by
  have hs1 := hs.1
  induction n with
  | zero =>
    intro i b a hi hb0 ha0 hb ha
    rw [List.drop_eq_nil_of_le (by omega), old, new, Int.add_zero, Int.add_zero]
    refine Ev.step (f := fun _ => some (b, a)) (fun k => ?_) (Ev.now _)
    simp only [delta_lengths.l0]
    rw [if_neg (by omega)]
  | succ n ih =>
    intro i b a hi hb0 ha0 hb ha
    have hlt : i < d.length := by omega
    have hsm := hs.2 _ (rd70_mem hlt)
    have hk := hok _ (rd70_mem hlt)
    rw [drop_T70 d i hlt, old, new] at *
    obtain ⟨s, hsd⟩ : ∃ s, s = rd_T70 d (i : Int) := ⟨_, rfl⟩
    rw [← hsd] at hsm hk hb ha ⊢
    have h1 := oldS_nn hk
    have h2 := newS_nn hk hsm
    have h3 := old_nn (d := d.drop (i + 1)) (fun x hx => hok x (List.mem_of_mem_drop hx))
    have h4 := new_nn (d := d.drop (i + 1)) (fun x hx => hok x (List.mem_of_mem_drop hx)) (fun x hx => hs.2 x (List.mem_of_mem_drop hx))
    have := ih (i + 1) (b + oldS s) (a + newS s) (by omega) (by omega) (by omega) (by omega) (by omega)
    rw [Int.add_assoc, Int.add_assoc] at this
    refine Ev.step (fun k => ?_) this
    simp only [delta_lengths.l0]
    rw [if_pos (by omega), if_pos (by omega), if_pos (by omega), ← hsd, size_is]
    simp only [Option.bind_some]
    have hl : s.f0 = 1 → oldS s = 0 := fun h => if_pos h
    have hl2 : s.f0 ≠ 1 → oldS s = s.f1 := fun h => if_neg h
    have hn2 : s.f0 = 2 → newS s = 0 := fun h => if_pos h
    have hn1 : s.f0 ≠ 2 → s.f0 = 1 → newS s = (s.f3.length : Int) := fun h h' => by unfold newS; rw [if_neg h, if_pos h']
    have hn0 : s.f0 ≠ 2 → s.f0 ≠ 1 → newS s = s.f1 := fun h h' => by unfold newS; rw [if_neg h, if_neg h']
    have wi : wrap64 ((i : Int) + 1) = ((i + 1 : Nat) : Int) := by rw [wrap_up (by omega) (by omega)]; rfl
    rw [wi]
    by_cases g1 : s.f0 = 1
    · have g2 : ¬ s.f0 = 2 := by omega
      rw [if_pos g1, if_neg g2, if_pos g1, ← hn1 g2 g1, w64 (by omega) (by omega), hl g1, Int.add_zero]
    · by_cases g2 : s.f0 = 2
      · rw [if_neg g1, if_pos g2, ← hl2 g1, w64 (by omega) (by omega), hn2 g2, Int.add_zero]
      · rw [if_neg g1, if_neg g2, if_neg g1, w64 (i := b + s.f1) (by rw [← hl2 g1]; omega) (by rw [← hl2 g1]; omega), w64 (i := a + s.f1) (by rw [← hl2 g1]; omega) (by rw [← hn0 g2 g1]; omega), ← hn0 g2 g1, hl2 g1, hn0 g2 g1]
theorem lengths_ev (d : List S70) (hs : DSm d) (h : DOK d) : Ev (fun k => delta_lengths.f k d) (old d, new d) := by
  have := lengths_l0 d hs h.ok d.length 0 0 0 (by omega) (by omega) (by omega) (by have := h.old; simpa using this) (by have := h.new; simpa using this)
  exact Ev.congr (f := fun k => delta_lengths.l0 k 0 0 d (d.length : Int) 0) (fun k => rfl) (by simpa using this)
theorem size_l0 (d : List S70) (hs : DSm d) (hok : ∀ s ∈ d, StepOK s) (n : Nat) : ∀ (i : Nat) (b : Int), i + n = d.length → 0 ≤ b → b + old (d.drop i) ≤ 2147483647 → Ev (fun k => chanceryref1_DeltaSize.l0 k d b (d.length : Int) (i : Int)) (b + old (d.drop i)) := by
  have hs1 := hs.1
  induction n with
  | zero =>
    intro i b hi hb0 hb
    rw [List.drop_eq_nil_of_le (by omega), old, Int.add_zero]
    refine Ev.step (f := fun _ => some b) (fun k => ?_) (Ev.now _)
    simp only [chanceryref1_DeltaSize.l0]
    rw [if_neg (by omega)]
  | succ n ih =>
    intro i b hi hb0 hb
    have hlt : i < d.length := by omega
    have hk := hok _ (rd70_mem hlt)
    rw [drop_T70 d i hlt, old] at *
    obtain ⟨s, hsd⟩ : ∃ s, s = rd_T70 d (i : Int) := ⟨_, rfl⟩
    rw [← hsd] at hk hb ⊢
    have h1 := oldS_nn hk
    have h3 := old_nn (d := d.drop (i + 1)) (fun x hx => hok x (List.mem_of_mem_drop hx))
    have e1 : oldS s = s.f1 := by
      unfold oldS
      rcases hk with h | h | h <;> split <;> omega
    have := ih (i + 1) (b + oldS s) (by omega) (by omega) (by omega)
    rw [Int.add_assoc] at this
    refine Ev.step (fun k => ?_) this
    simp only [chanceryref1_DeltaSize.l0]
    rw [if_pos (by omega), if_pos (by omega), if_pos (by omega), ← hsd, ← e1, w64 (by omega) (by omega), wrap_up (by omega) (by omega)]
    rfl
theorem size_ev (d : List S70) (hs : DSm d) (h : DOK d) : Ev (fun k => chanceryref1_DeltaSize.f k d) (old d) := by
  have := size_l0 d hs h.ok d.length 0 0 (by omega) (by omega) (by have := h.old; simpa using this)
  exact Ev.congr (f := fun k => chanceryref1_DeltaSize.l0 k d 0 (d.length : Int) 0) (fun k => rfl) (by simpa using this)
end Go.Proofs.Ytdgemabmmomebaa.PDelta
end
section
namespace Go.Proofs.Ytdgemabmmomebaa.PDelta
open Go.RowKit Go.Proofs.YtdgemabmmomebaaW.PrintWords Go.Proofs.YtdgemabmmomebaaW.PrintLast Go.Proofs.YtdgemabmmomebaaW.PrintMore
set_option linter.unusedVariables false
set_option linter.unusedSimpArgs false
inductive Un where
  | keep (t : List S38)
  | cut
  | add (x : S84)
def us (s : S70) : List Un := if s.f0 = 0 then List.replicate s.f1.toNat (.keep s.f2) else if s.f0 = 1 then s.f3.map .add else List.replicate s.f1.toNat .cut
def units (d : List S70) : List Un := d.flatMap us
def app (t : List S38) (x : S84) : S84 := ⟨x.f0, x.f1, mrg rawE x.f2 t⟩
def run : List S84 → List Un → List S84 × List S84
  | f, [] => ([], f)
  | f, .add x :: u => (x :: (run f u).1, (run f u).2)
  | [], .keep _ :: u => run [] u
  | x :: f, .keep t :: u => (app t x :: (run f u).1, (run f u).2)
  | [], .cut :: u => run [] u
  | _ :: f, .cut :: u => run f u
theorem units_nil : units [] = [] := rfl
theorem units_cons (s : S70) (d : List S70) : units (s :: d) = us s ++ units d := rfl
theorem units_app (a b : List S70) : units (a ++ b) = units a ++ units b := by simp [units]
theorem run_app (a b : List Un) : ∀ f : List S84, run f (a ++ b) = ((run f a).1 ++ (run (run f a).2 b).1, (run (run f a).2 b).2) := by
  induction a with
  | nil => intro f; rfl
  | cons x a ih =>
    intro f
    cases x with
    | add x => simp only [List.cons_append, run, ih]
    | keep t => cases f <;> simp only [List.cons_append, run, ih]
    | cut => cases f <;> simp only [List.cons_append, run, ih]
theorem run_keeps (t : List S38) : ∀ (n : Nat) (f : List S84), n ≤ f.length → run f (List.replicate n (.keep t)) = ((f.take n).map (app t), f.drop n)
  | 0, f, _ => by simp [run]
  | n + 1, [], h => by simp at h
  | n + 1, x :: f, h => by rw [List.replicate_succ, run, run_keeps t n f (by simpa using h)]; simp
theorem run_cuts : ∀ (n : Nat) (f : List S84), n ≤ f.length → run f (List.replicate n .cut) = ([], f.drop n)
  | 0, f, _ => by simp [run]
  | n + 1, [], h => by simp at h
  | n + 1, x :: f, h => by rw [List.replicate_succ, run, run_cuts n f (by simpa using h)]; simp
theorem run_adds : ∀ (l f : List S84), run f (l.map .add) = (l, f)
  | [], f => rfl
  | x :: l, f => by rw [List.map_cons, run, run_adds l f]
def LB (n : Nat) (f : List S84) : Prop := f.length ≤ n ∧ ∀ x ∈ f, x.f2.length ≤ n
theorem LB.mono {n m : Nat} {f : List S84} (h : LB n f) (hm : n ≤ m) : LB m f := ⟨Nat.le_trans h.1 hm, fun x hx => Nat.le_trans (h.2 x hx) hm⟩
theorem pok_mem {f : List S84} : POK f ↔ ∀ x ∈ f, ElemOK x := by
  constructor
  · intro h x hx
    obtain ⟨i, h0, h1, rfl⟩ := memf_rd hx
    exact h i h0 h1
  · intro h j h0 h1
    exact h _ (rdf_mem h0 h1)
theorem va_small {ch : Bool} {l : List S38} (h : VA ch l) (hl : l.length ≤ 1099511627776) : Small l := by
  refine ⟨hl, fun x hx => ?_⟩
  obtain ⟨h1, h2⟩ := h.1 x hx
  have := h1.2.1
  refine ⟨by omega, ?_⟩
  rcases h2 with h2 | ⟨_, h2⟩
  · have := h2.2.1; omega
  · omega
theorem fsmall {n : Nat} {f : List S84} (h : POK f) (hl : LB n f) (hn : n ≤ 1073741824) : FSmall f := by
  refine ⟨Nat.le_trans hl.1 hn, fun x hx => ?_⟩
  have h1 := hl.2 x hx
  exact ⟨va_small (pok_mem.1 h x hx).2 (by omega), by omega⟩
def DB (n : Nat) (d : List S70) : Prop := d.length ≤ n ∧ ∀ s ∈ d, s.f2.length ≤ n ∧ LB n s.f3
theorem stepok_small {n : Nat} {s : S70} (h : StepOK s) (h1 : s.f2.length ≤ n) (h2 : LB n s.f3) (hn : n ≤ 1073741824) : SSm s := by
  rcases h with h | h | h
  · exact ⟨va_small h.2.2.2.2 (by omega), by rw [h.2.2.2.1]; exact ⟨Nat.zero_le _, fun x hx => by cases hx⟩⟩
  · exact ⟨by rw [h.2.2.1]; exact ⟨Nat.zero_le _, fun x hx => by cases hx⟩, fsmall h.2.2.2.2 h2 hn⟩
  · exact ⟨by rw [h.2.2.2.2]; exact ⟨Nat.zero_le _, fun x hx => by cases hx⟩, by rw [h.2.2.2.1]; exact ⟨Nat.zero_le _, fun x hx => by cases hx⟩⟩
theorem dsm {n : Nat} {d : List S70} (h : ∀ s ∈ d, StepOK s) (hd : DB n d) (hn : n ≤ 1073741824) : DSm d :=
  ⟨Nat.le_trans hd.1 hn, fun s hs => stepok_small (h s hs) (hd.2 s hs).1 (hd.2 s hs).2 hn⟩
theorem changed_l0 (t : List S38) (l : List S84) (ht : t.length ≤ 1073741824) (hl : l.length ≤ 1073741824) (hx : ∀ x ∈ l, x.f2.length ≤ 1073741824) (n : Nat) : ∀ i : Nat, i + n = l.length →
    Ev (fun k => delta_changed.l0 k t ((l.take i).map (app t) ++ List.replicate (l.length - i) z84) l (l.length : Int) (i : Int)) (l.map (app t)) := by
  induction n with
  | zero =>
    intro i hi
    refine Ev.step (f := fun _ => some (l.map (app t))) (fun k => ?_) (Ev.now _)
    simp only [delta_changed.l0]
    rw [if_neg (by omega), show i = l.length by omega]
    simp
  | succ n ih =>
    intro i hi
    have hlt : i < l.length := by omega
    refine Ev.step (fun k => ?_) (ih (i + 1) (by omega))
    have hlen : ((l.take i).map (app t) ++ List.replicate (l.length - i) z84).length = l.length := by simp; omega
    have hxe : rd_T84 l (i : Int) = l[i]'hlt := by simp [rd_T84, List.getD_eq_getElem?_getD, List.getElem?_eq_getElem hlt]
    have h2 := hx _ (rdf_mem (l := l) (i := (i : Int)) (by omega) (by omega))
    simp only [delta_changed.l0]
    rw [if_pos (by omega), if_pos (by omega), if_pos (by omega), raw_f h2 ht, Option.bind_some, if_pos (by rw [hlen]; omega), wrap_up (by omega) (by omega), show ((i : Int) + 1) = ((i + 1 : Nat) : Int) from by omega]
    have hset : ((l.take i).map (app t) ++ List.replicate (l.length - i) z84).set (i : Int).toNat (⟨(rd_T84 l (i : Int)).f0, (rd_T84 l (i : Int)).f1, mrg rawE (rd_T84 l (i : Int)).f2 t⟩ : S84) = (l.take (i + 1)).map (app t) ++ List.replicate (l.length - (i + 1)) z84 := by
      rw [Int.toNat_natCast]
      have hn : l.length - i = (l.length - (i + 1)) + 1 := by omega
      rw [hn, List.replicate_succ, List.set_append_right _ _ (by simp; omega)]
      have e1 : i - ((l.take i).map (app t)).length = 0 := by simp; omega
      have ht : l.take (i + 1) = l.take i ++ [l[i]'hlt] := by
        rw [List.take_add_one, List.getElem?_eq_getElem hlt]
        rfl
      rw [e1, List.set_cons_zero, hxe, ht, List.map_append, List.append_assoc]
      rfl
    rw [hset]
theorem changed_ev (t : List S38) (l : List S84) (ht : t.length ≤ 1073741824) (hl : l.length ≤ 1073741824) (hx : ∀ x ∈ l, x.f2.length ≤ 1073741824) : Ev (fun k => delta_changed.f k l t) (l.map (app t)) := by
  refine Ev.congr (fun k => ?_) (changed_l0 t l ht hl hx l.length 0 (by omega))
  unfold delta_changed.f
  rw [if_pos (by omega), if_pos (by omega)]
  simp
theorem us_keep {s : S70} (h : s.f0 = 0) : us s = List.replicate s.f1.toNat (.keep s.f2) := if_pos h
theorem us_add {s : S70} (h : s.f0 = 1) : us s = s.f3.map .add := by unfold us; rw [if_neg (by omega), if_pos h]
theorem us_cut {s : S70} (h : s.f0 = 2) : us s = List.replicate s.f1.toNat .cut := by unfold us; rw [if_neg (by omega), if_neg (by omega)]
theorem raw_l0 (d : List S70) (hok : ∀ s ∈ d, StepOK s) (hd : DB 1073741824 d) (n : Nat) : ∀ (i : Nat) (f acc : List S84), i + n = d.length → LB 1073741824 f → old (d.drop i) ≤ (f.length : Int) → (acc.length : Int) + new (d.drop i) ≤ 1073741824 →
    Ev (fun k => delta_Raw.l0 k f acc d (d.length : Int) (i : Int)) (acc ++ (run f (units (d.drop i))).1) := by
  have hs := dsm hok hd (Nat.le_refl _)
  have hs1 := hs.1
  induction n with
  | zero =>
    intro i f acc hi hf ho ha
    rw [List.drop_eq_nil_of_le (by omega), units_nil, run, List.append_nil]
    refine Ev.step (f := fun _ => some acc) (fun k => ?_) (Ev.now _)
    simp only [delta_Raw.l0]
    rw [if_neg (by omega)]
  | succ n ih =>
    intro i f acc hi hf ho ha
    have hlt : i < d.length := by omega
    have hsm := hs.2 _ (rd70_mem hlt)
    have hk := hok _ (rd70_mem hlt)
    have hdb := hd.2 _ (rd70_mem hlt)
    rw [drop_T70 d i hlt, old] at ho
    rw [drop_T70 d i hlt, new] at ha
    rw [drop_T70 d i hlt, units_cons, run_app]
    obtain ⟨s, hsd⟩ : ∃ s, s = rd_T70 d (i : Int) := ⟨_, rfl⟩
    rw [← hsd] at hsm hk ho ha hdb ⊢
    have h3 := old_nn (d := d.drop (i + 1)) (fun x hx => hok x (List.mem_of_mem_drop hx))
    have h4 := new_nn (d := d.drop (i + 1)) (fun x hx => hok x (List.mem_of_mem_drop hx)) (fun x hx => hs.2 x (List.mem_of_mem_drop hx))
    have hfl := hf.1
    have e : ∀ k, delta_Raw.l0 (k + 1) f acc d (d.length : Int) (i : Int) = if s.f0 = 0 then (if 0 ≤ s.f1 then (if s.f1 ≤ (f.length : Int) then ((delta_changed.f k (f.take s.f1.toNat) s.f2).bind fun t => if acc.length + t.length < 3518437208883 then delta_Raw.l0 k (f.drop s.f1.toNat) (acc ++ t) d (d.length : Int) ((i + 1 : Nat) : Int) else none) else none) else none)
        else (if s.f0 = 1 then ((flow_Copy.f k s.f3).bind fun t => if acc.length + t.length < 3518437208883 then delta_Raw.l0 k f (acc ++ t) d (d.length : Int) ((i + 1 : Nat) : Int) else none) else (if 0 ≤ s.f1 then (if s.f1 ≤ (f.length : Int) then delta_Raw.l0 k (f.drop s.f1.toNat) acc d (d.length : Int) ((i + 1 : Nat) : Int) else none) else none)) := fun k => by
      simp only [delta_Raw.l0]
      rw [if_pos (by omega), if_pos (by omega), if_pos (by omega), ← hsd, wrap_up (by omega) (by omega)]
      rfl
    rcases hk with hk | hk | hk
    · have eo : oldS s = s.f1 := if_neg (by omega)
      have en : newS s = s.f1 := by unfold newS; rw [if_neg (by omega), if_neg (by omega)]
      rw [us_keep hk.1, run_keeps _ _ _ (by omega)]
      have hc := changed_ev s.f2 (f.take s.f1.toNat) (by have := hdb.1; omega) (by rw [List.length_take]; omega) (fun x hx => by have := hf.2 x (List.mem_of_mem_take hx); omega)
      have hl : ((f.take s.f1.toNat).map (app s.f2)).length = s.f1.toNat := by rw [List.length_map, List.length_take]; omega
      have := ih (i + 1) (f.drop s.f1.toNat) (acc ++ (f.take s.f1.toNat).map (app s.f2)) (by omega) ⟨by rw [List.length_drop]; omega, fun x hx => hf.2 x (List.mem_of_mem_drop hx)⟩ (by rw [List.length_drop]; omega) (by rw [List.length_append, hl]; omega)
      rw [List.append_assoc] at this
      exact Ev.step (fun k => by rw [e, if_pos hk.1, if_pos (by omega), if_pos (by omega)]) (Ev.bind hc (Ev.congr (fun k => by rw [if_pos (by rw [hl]; omega)]) this))
    · have eo : oldS s = 0 := if_pos hk.1
      have en : newS s = (s.f3.length : Int) := by unfold newS; rw [if_neg (by omega), if_pos hk.1]
      rw [us_add hk.1, run_adds]
      have := ih (i + 1) f (acc ++ s.f3) (by omega) hf (by omega) (by rw [List.length_append]; omega)
      rw [List.append_assoc] at this
      exact Ev.step (fun k => by rw [e, if_neg (by omega), if_pos hk.1]) (Ev.bind (copy_ev s.f3 hsm.2) (Ev.congr (fun k => by rw [if_pos (by have := hsm.2.1; omega)]) this))
    · have eo : oldS s = s.f1 := if_neg (by omega)
      have en : newS s = 0 := if_pos hk.1
      rw [us_cut hk.1, run_cuts _ _ (by omega)]
      have := ih (i + 1) (f.drop s.f1.toNat) acc (by omega) ⟨by rw [List.length_drop]; omega, fun x hx => hf.2 x (List.mem_of_mem_drop hx)⟩ (by rw [List.length_drop]; omega) (by omega)
      exact Ev.step (fun k => by rw [e, if_neg (by omega), if_neg (by omega), if_pos (by omega), if_pos (by omega)]) this
theorem raw_ev (d : List S70) (f : List S84) (hok : ∀ s ∈ d, StepOK s) (hd : DB 1073741824 d) (hf : LB 1073741824 f) (ho : old d ≤ (f.length : Int)) (hn : new d ≤ 1073741824) : Ev (fun k => delta_Raw.f k f d) (run f (units d)).1 := by
  have := raw_l0 d hok hd d.length 0 f [] (by omega) hf (by simpa using ho) (by simpa using hn)
  exact Ev.congr (f := fun k => delta_Raw.l0 k f [] d (d.length : Int) 0) (fun k => rfl) (by simpa using this)
theorem fits_ev (f : List S84) (d : List S70) (hf : POK f) (hl : LB 1073741824 f) (h : DOK d) (hd : DB 1073741824 d) (ho : old d = (f.length : Int)) : Ev (fun k => delta_fits.f k f d) 0 := by
  have hs := dsm h.ok hd (Nat.le_refl _)
  obtain ⟨p, hp, hpi⟩ := part_ev f (fsmall hf hl (Nat.le_refl _))
  obtain rfl := hpi.2 hf
  obtain ⟨c, hc, hci⟩ := check_ev d hs
  obtain rfl := hci.2 h
  refine Ev.congr (fun k => by unfold delta_fits.f; rfl) (Ev.bind hp (Ev.congr (fun k => by rw [if_pos rfl]) (Ev.bind hc (Ev.congr (fun k => by rw [if_pos rfl]) (Ev.bind (lengths_ev d hs h) (Ev.congr (fun k => by rw [if_pos ho]) (Ev.now 0)))))))
theorem apply_ev (f : List S84) (d : List S70) (hf : POK f) (hl : LB 1073741824 f) (h : DOK d) (hd : DB 1073741824 d) (ho : old d = (f.length : Int)) (hn : new d ≤ 1073741824) : Ev (fun k => delta_Apply.f k f d) ((run f (units d)).1, 0) :=
  Ev.congr (fun k => by unfold delta_Apply.f; rfl) (Ev.bind (fits_ev f d hf hl h hd ho) (Ev.congr (fun k => by rw [if_pos rfl]) (Ev.bind (raw_ev d f h.ok hd hl (by omega) hn) (Ev.now _))))
end Go.Proofs.Ytdgemabmmomebaa.PDelta
end
section
namespace Go.Proofs.Ytdgemabmmomebaa.PDelta
open Go.RowKit Go.Proofs.YtdgemabmmomebaaW.PrintWords Go.Proofs.YtdgemabmmomebaaW.PrintLast Go.Proofs.YtdgemabmmomebaaW.PrintMore
set_option linter.unusedVariables false
set_option linter.unusedSimpArgs false
def dofB (k : Nat) (o : List S70) (attrs : List S38) : Option Bool :=
  if 0 < o.length then (if (rd_T70 o ((o.length : Int) - 1)).f0 = 0 then chanceryref1_SameAttrs.f k (rd_T70 o ((o.length : Int) - 1)).f2 attrs else some false) else some false
def dofL (k : Nat) : List (List S84) → List Bool → List (List S38) → List S70 → List S84 → Int → Option (List S70)
  | a :: As, c :: Cs, t :: Ts, out, adds, cuts => if 1099511627776 < out.length ∨ 1099511627776 < adds.length + a.length then none else
    if c = true then dofL k As Cs Ts out (adds ++ a) (wrap64 (cuts + 1)) else (dofB k (flushD out (adds ++ a) cuts) t).bind fun b => dofL k As Cs Ts (keepO (flushD out (adds ++ a) cuts) 1 t b) [] 0
  | a :: _, [], _, out, adds, cuts => if 1099511627776 < out.length ∨ 1099511627776 < adds.length + a.length then none else some (flushD out (adds ++ a) cuts)
  | _, _, _, _, _, _ => none
structure DfO (w : World) (ga : Nat) (cs : Array Value) (out : List S70) (v : Value) (wr : World) : Prop where
  bk : wr.heap[ga]? = some (.cells cs 123 (0, 0))
  row : Kd.N k70 70 wr w.heap.size (fun _ => True) v out
  bel : Below w.heap.size w wr
structure DfS (w : World) (ga : Nat) (cs : Array Value) (out : List S70) (adds : List S84) (v u : Value) (wr : World) : Prop where
  bk : wr.heap[ga]? = some (.cells cs 123 (0, 0))
  row : Kd.N k70 70 wr w.heap.size (fun k => some k ≠ u.ownBlock) v out
  radd : Kd.N k84 84 wr w.heap.size (fun k => some k ≠ v.ownBlock) u adds
  bel : Below w.heap.size w wr
section
variable {w wr w1 : World} {ga : Nat} {cs : Array Value} {out out' : List S70} {adds adds' : List S84} {v u v1 u1 : Value}
theorem DfS.weak (h : DfS w ga cs out adds v u wr) : DfO w ga cs out v wr := ⟨h.bk, Kd.N_mono h.row (fun _ _ => trivial), h.bel⟩
theorem DfO.clear (h : DfO w ga cs out v wr) : DfS w ga cs out [] v (.slice none 0 0) wr := ⟨h.bk, Kd.N_mono h.row (fun _ _ => by simp [Value.ownBlock]), Kd.N_nil _ _ _ _ _, h.bel⟩
theorem DfO.app (h : DfO w ga cs out v wr) (hR : Kd.N k70 70 w1 w.heap.size (fun _ => True) v1 out') (hB : Below w.heap.size w w1) (hg : wr.grownBy w1 v.ownBlock) : DfO w ga cs out' v1 w1 := ⟨blk_grown h.bk hg (Kd.N_ne h.row h.bk (by decide)), hR, hB⟩
theorem DfO.drew (h : DfO w ga cs out v wr) : DfO w ga cs out v wr.drew := ⟨blk_drew h.bk, Kd.N_drew h.row, below_drew1 h.bel⟩
theorem DfO.drewN (h : DfO w ga cs out v wr) (n : Nat) : DfO w ga cs out v (wr.drewN n) := ⟨blk_drewN h.bk n, Kd.N_drewN h.row n, pw_below_drewN h.bel n⟩
theorem DfS.appu (h : DfS w ga cs out adds v u wr) (hR : Kd.N k84 84 w1 w.heap.size (fun k => some k ≠ v.ownBlock) u1 adds') (hB : Below w.heap.size w w1) (hg : wr.grownBy w1 u.ownBlock) (hat : u1.ownBlock = u.ownBlock ∨ ∃ b, u1.ownBlock = some b ∧ wr.heap.size ≤ b) : DfS w ga cs out adds' v u1 w1 :=
  ⟨blk_grown h.bk hg (Kd.N_ne h.radd h.bk (by decide)), Kd.N_mono (Kd.N_afterv (ok := fun _ => True) (Kd.N_mono h.row (fun _ hk => ⟨trivial, hk⟩)) hg hat) (fun _ hk => hk.2), hR, hB⟩
theorem DfS.far (h : DfS w ga cs out adds v u wr) (k : Nat) (hk : k < w.heap.size) : some k ≠ v.ownBlock ∧ some k ≠ u.ownBlock :=
  ⟨fun e => by have := Kd.N_base h.row k e.symm; omega, fun e => by have := Kd.N_base h.radd k e.symm; omega⟩
theorem DfS.fresh (h : DfS w ga cs out adds v u wr) (k : Nat) (hk : wr.heap.size ≤ k) : some k ≠ v.ownBlock ∧ some k ≠ u.ownBlock :=
  ⟨fun e => by have := Kd.N_lt h.row k e.symm; omega, fun e => by have := Kd.N_lt h.radd k e.symm; omega⟩
end
theorem drop_L5 (l : List (List S84)) (i : Nat) (h : i < l.length) : l.drop i = rd_L5 l (i : Int) :: l.drop (i + 1) := by
  rw [List.drop_eq_getElem_cons h]
  simp [rd_L5, List.getD_eq_getElem?_getD, List.getElem?_eq_getElem h]
theorem drop_L3 (l : List (List S38)) (i : Nat) (h : i < l.length) : l.drop i = rd_L3 l (i : Int) :: l.drop (i + 1) := by
  rw [List.drop_eq_getElem_cons h]
  simp [rd_L3, List.getD_eq_getElem?_getD, List.getElem?_eq_getElem h]
theorem drop_B (l : List Bool) (i : Nat) (h : i < l.length) : l.drop i = rdOf false l (i : Int) :: l.drop (i + 1) := by
  rw [List.drop_eq_getElem_cons h]
  simp [rdOf, List.getD_eq_getElem?_getD, List.getElem?_eq_getElem h]
set_option maxRecDepth 100000 in
set_option maxHeartbeats 4000000 in
theorem dof_calls (k : Nat) (A0 : Option Addr) (c0 : Nat) (l0 : List (List S84)) (A1 : Option Addr) (c1 : Nat) (l1 : List Bool) (A2 : Option Addr) (c2 : Nat) (l2 : List (List S38)) (r : List S70) (w : World) (h0 : Kd.C (Kd.slice 84 k84) w A0 l0.length l0) (h1 : Kd.C Kd.bool w A1 l1.length l1) (h2 : Kd.C (Kd.slice 38 k38) w A2 l2.length l2)
    (hl0 : l0.length = l1.length + 1) (hl2 : l2.length = l1.length) (hl : l1.length ≤ 1099511627776) (hf : dofL k l0 l1 l2 [] [] 0 = some r) :
    Calls Try.prog 84 #[.agg #[.slice A0 l0.length c0, .slice A1 l1.length c1, .slice A2 l2.length c2]] w fun e w' => ∃ v0_ : Value, e = .returned v0_ ∧ Kd.N k70 70 w' w.heap.size (fun _ => True) v0_ r ∧ Below w.heap.size w w' := by
  have hu70 := Try.underlying70
  have hu123 := Try.underlying123
  have HR0 := Aside0.mk h0
  have HR1 := Aside0.mk h1
  have HR2 := Aside0.mk h2
  have HL0 := Aside0.mk hl0
  have HL2 := Aside0.mk hl2
  have HLN := Aside0.mk hl
  have HZ := Aside0.mk (show dofL k (l0.drop 0) (l1.drop 0) (l2.drop 0) [] [] 0 = some r from hf)
  clear h0 h1 h2 hl0 hl2 hl hf
  go_enter Try.func84, Try.ntmps84
  go_wp2_with ((with_reducible refine gate_dst (N := 1) rfl ?_); refine box_event ?hg (N := 1) ?hd (cs := #[.slice A0 l0.length c0, .slice A1 l1.length c1, .slice A2 l2.length c2]) (t := 123) ?hr ?_; (case hd => rfl); (case hg => rfl); (case hr => first | (go_simp; done) | (go_simp; rfl)); intro ga hg w2 hbox hb; have HJ0 := Aside0.mk (show DfS w ga #[.slice A0 l0.length c0, .slice A1 l1.length c1, .slice A2 l2.length c2] [] [] (.slice none 0 0) (.slice none 0 0) w2 from ⟨hbox, Kd.N_nil _ _ _ _ _, Kd.N_nil _ _ _ _ _, hb⟩); clear hb hbox hg)
  go_loopg [3, 4, 5, 6] (l1.length + 1) (fun m v3 v4 v5 v6 wr => ∃ (i : Nat) (out : List S70) (adds : List S84) (cuts : Int), v5 = .int .i64 cuts ∧ v6 = .int .i64 (i : Int) ∧ Aside0 (m + i = l1.length + 1) ∧ Aside0 (DfS w ga #[.slice A0 l0.length c0, .slice A1 l1.length c1, .slice A2 l2.length c2] out adds v3 v4 wr) ∧ Aside0 (dofL k (l0.drop i) (l1.drop i) (l2.drop i) out adds cuts = some r))
  case atStart => exact ⟨0, [], [], 0, rfl, rfl, ⟨rfl⟩, HJ0, HZ⟩
  case round =>
    clear HJ0 HZ
    obtain ⟨i, out, adds, cuts, rfl, rfl, HI, HD, HL⟩ := hrel
    cases gk with
    | zero =>
      exact absurd HL.out (by rw [List.drop_eq_nil_of_le (by have := HI.out; have := HL0.out; omega)]; simp [dofL])
    | succ gl =>
    have hi : i ≤ l1.length := by have := HI.out; omega
    have hi0 : i < l0.length := by have := HL0.out; omega
    have hL := HL.out
    rw [drop_L5 l0 i hi0] at hL
    have g1 : decide ((i : Int) ≤ (l1.length : Int)) = true := decide_eq_true (by omega)
    have g1' : decide (i ≤ l1.length) = true := decide_eq_true hi
    have q0 : (i : Int) < (l0.length : Int) := by omega
    obtain ⟨ad0, B0, m0, e0, hx0, hm0, hC0⟩ := at_L5 HR0.out (i : Int) (by omega) q0
    cases e0
    replace hx0 := (HD.out.bel.cell (World.block_lt_of_cell? w _ hx0)).trans hx0
    simp only [Int.toNat_natCast] at hx0
    obtain ⟨a, ha⟩ : ∃ a, a = rd_L5 l0 (i : Int) := ⟨_, rfl⟩
    rw [← ha] at hx0 hm0 hC0 hL
    have HFA := Aside0.mk (Kd.F_step (Kd.C_F k84_heap hC0) (fun k hk _ => HD.out.bel.block k hk))
    have c0 : wr.cell? ⟨ga, 0, none⟩ = some (.slice (some ad0) l0.length c0) := (blk_cell HD.out.bk 0).trans rfl
    have c1' : wr.cell? ⟨ga, 1, none⟩ = some (.slice A1 l1.length c1) := (blk_cell HD.out.bk 1).trans rfl
    have hbig : ¬ (1099511627776 < out.length ∨ 1099511627776 < adds.length + a.length) := by
      intro hb
      by_cases hlt : i < l1.length
      · rw [drop_B l1 i hlt, drop_L3 l2 i (by have := HL2.out; omega)] at hL
        simp only [dofL] at hL
        rw [if_pos hb] at hL
        cases hL
      · rw [List.drop_eq_nil_of_le (show l1.length ≤ i by omega), List.drop_eq_nil_of_le (show l2.length ≤ i by have := HL2.out; omega)] at hL
        simp only [dofL] at hL
        rw [if_pos hb] at hL
        cases hL
    have HBG := Aside0.mk hbig
    obtain ⟨A4, n4, hu4⟩ := Kd.N_slice HD.out.radd
    subst hu4
    have HLI := Aside0.mk hL
    clear hbig hL HL ha hm0 hC0 hi0
    go_upto_region 8 with (at_builtin; refine Kd.N_append_rows k84 (w0 := w) w.heap.size rfl (.tmp 15) (.tmp 20) 63 84 (.agg #[(.int .i64 0), (.int .i64 0), (.slice none 0 0)]) 40 rfl Try.underlying63 info84 rfl (by decide) (by decide) _ adds a _ _ _ (fun k => some k ≠ u3.ownBlock) (fun k => k < w.heap.size) rfl rfl HD.out.radd HFA.out (fun k hk => HD.out.far k hk) (fun k hk => (HD.out.fresh k hk).1) HD.out.bel HD.out.bel.size (by have := HBG.out; omega) ?_; intro v1 w3 hR hB hg hat; have HD3 := Aside0.mk (HD.out.appu hR hB hg hat); clear hR hB hg hat)
    obtain ⟨al, hal⟩ : ∃ l : List S84, l = adds ++ a := ⟨_, rfl⟩
    rw [← hal] at HD3
    have HAL := Aside0.mk hal
    clear hal c0 c1' hx0 HFA
    obtain ⟨A5, n5, hv1⟩ := Kd.N_slice HD3.out.radd
    subst hv1
    clear HD
    obtain ⟨A3, n3, hu3⟩ := Kd.N_slice HD3.out.row
    subst hu3
    obtain ⟨cc, hcc⟩ : ∃ c : Bool, c = (decide (i < l1.length) && rdOf false l1 (i : Int)) := ⟨_, rfl⟩
    have HCC := Aside0.mk hcc
    clear hcc
    go_cut [33] (fun v33 wx => v33 = .bool cc ∧ wx = w3)
    case first =>
      have d1 : w3.cell? ⟨ga, 1, none⟩ = some (.slice A1 l1.length c1) := (blk_cell HD3.out.bk 1).trans rfl
      by_cases hlt : i < l1.length
      · have g2 : decide ((i : Int) < (l1.length : Int)) = true := decide_eq_true (by omega)
        have g2' : decide (i < l1.length) = true := decide_eq_true hlt
        have q1 : (i : Int) < (l1.length : Int) := by omega
        obtain ⟨ad1, e1, hx1⟩ := Kd.at_bool HR1.out (i : Int) (by omega) q1
        cases e1
        replace hx1 := (HD3.out.bel.cell (World.block_lt_of_cell? w _ hx1)).trans hx1
        simp only [Int.toNat_natCast] at hx1
        have hcv := HCC.out
        rw [g2', Bool.true_and] at hcv
        have HCV := Aside0.mk hcv
        clear hcv hlt
        go_wp2
        go_meet
        case rel => exact ⟨by rw [HCV.out], rfl⟩
      · have g2 : decide ((i : Int) < (l1.length : Int)) = false := decide_eq_false (by omega)
        have g2' : decide (i < l1.length) = false := decide_eq_false hlt
        have hcv := HCC.out
        rw [g2', Bool.false_and] at hcv
        have HCV := Aside0.mk hcv
        clear hcv hlt
        go_wp2
        go_meet
        case rel => exact ⟨by rw [HCV.out], rfl⟩
    case rest =>
    obtain ⟨rfl, rfl⟩ := hcut
    cases cc with
    | true =>
      have hlt : i < l1.length := by
        have := HCC.out
        simp only [Bool.true_eq, Bool.and_eq_true, decide_eq_true_eq] at this
        exact this.1
      have hL := HLI.out
      have hcv : rdOf false l1 (i : Int) = true := by
        have := HCC.out
        simp only [Bool.true_eq, Bool.and_eq_true, decide_eq_true_eq] at this
        exact this.2
      rw [drop_B l1 i hlt, drop_L3 l2 i (by have := HL2.out; omega)] at hL
      simp only [dofL] at hL
      rw [if_neg HBG.out, if_pos hcv, ← HAL.out] at hL
      have HL := Aside0.mk hL
      have wk : wrap64 ((i : Int) + 1) = (i : Int) + 1 := by have := HLN.out; unfold wrap64; omega
      have HIG := Aside0.mk (show gl + (i + 1) = l1.length + 1 by have := HI.out; omega)
      clear hL hcv hlt hi
      go_wp2
      go_roundg gl
      case measure => omega
      case rel => exact ⟨i + 1, out, al, wrap64 (cuts + 1), rfl, by simp [wk], HIG, HD3, HL⟩
    | false =>
      obtain ⟨ta, hta⟩ : ∃ t : Bool, decide (0 < (al.length : Int)) = t := ⟨_, rfl⟩
      have hta2 : decide (0 < al.length) = ta := by rw [← hta]; exact decide_eq_decide.mpr (by omega)
      have HOL := Aside0.mk (show out.length ≤ 1099511627776 by have := HBG.out; omega)
      go_upto_if 38 with (fail)
      go_cut [3] (fun v3 wx => Aside0 (DfO w ga #[.slice (some ad0) l0.length c0, .slice A1 l1.length c1, .slice A2 l2.length c2] (addD out al) v3 wx))
      case first =>
        cases ta with
        | false =>
          have hadd := of_decide_eq_false hta2
          have e : addD out al = out := if_neg hadd
          go_wp2
          go_meet
          case rel => exact ⟨by rw [e]; exact HD3.out.weak⟩
        | true =>
          have hadd := of_decide_eq_true hta2
          have e : addD out al = out ++ [⟨1, 0, [], al⟩] := if_pos hadd
          have HE := Aside0.mk e
          clear hadd e
          go_wp2_with (at_builtin; refine Kd.N_append k70 (w0 := w) w.heap.size rfl (.tmp 39) (.tmp 42) 64 70 (.agg #[.int .i64 0, .int .i64 0, .slice none 0 0, .slice none 0 0]) 64 rfl Try.underlying64 info70 rfl (by decide) (by decide) _ out ⟨1, 0, [], al⟩ _ (fun _ => True) (fun k => some k ≠ (Value.slice A3 out.length n3).ownBlock) rfl (by simp [Act.eval]) (k70_mkF _ _ ⟨1, 0, [], al⟩ (Nat.le_refl 0) (Kd.F_nil _ _ _) (Kd.N_reads' HD3.out.radd).2.1 (Kd.N_F HD3.out.radd)) (fun _ hk => ⟨trivial, hk⟩) (fun _ _ => trivial) HD3.out.weak.row HD3.out.bel HD3.out.bel.size (by have := HOL.out; omega) ?_; intro v1 w4 hR hB hg hat; have HW := Aside0.mk (HD3.out.weak.app hR hB hg); clear hR hB hg hat)
          go_meet
          case rel => exact ⟨by rw [HE.out]; exact HW.out⟩
      case rest =>
      clear hta hta2
      obtain ⟨l2', hl2'⟩ : ∃ l : List S70, l = addD out al := ⟨_, rfl⟩
      have HLEN := Aside0.mk (show l2'.length ≤ out.length + 1 by rw [hl2']; unfold addD; split <;> simp)
      rw [← hl2'] at hcut
      have HL2' := Aside0.mk hl2'
      clear hl2'
      obtain ⟨A6, n6, hv6⟩ := Kd.N_slice hcut.out.row
      subst hv6
      have HO2 := hcut
      clear hcut HD3
      obtain ⟨tb, htb⟩ : ∃ t : Bool, decide (0 < cuts) = t := ⟨_, rfl⟩
      go_upto_if 45 with (fail)
      go_cut [3] (fun v3 wx => Aside0 (DfO w ga #[.slice (some ad0) l0.length c0, .slice A1 l1.length c1, .slice A2 l2.length c2] (cutD l2' cuts) v3 wx))
      case first =>
        cases tb with
        | false =>
          have hadd := of_decide_eq_false htb
          have e : cutD l2' cuts = l2' := if_neg hadd
          go_wp2
          go_meet
          case rel => exact ⟨by rw [e]; exact HO2.out⟩
        | true =>
          have hadd := of_decide_eq_true htb
          have e : cutD l2' cuts = l2' ++ [⟨2, cuts, [], []⟩] := if_pos hadd
          have HE := Aside0.mk e
          clear hadd e
          go_wp2_with (at_builtin; refine Kd.N_append k70 (w0 := w) w.heap.size rfl (.tmp 46) (.tmp 49) 64 70 (.agg #[.int .i64 0, .int .i64 0, .slice none 0 0, .slice none 0 0]) 64 rfl Try.underlying64 info70 rfl (by decide) (by decide) _ l2' ⟨2, cuts, [], []⟩ _ (fun _ => True) (fun _ => False) rfl (by simp [Act.eval]) (k70_mkF _ _ ⟨2, cuts, [], []⟩ (Nat.le_refl 0) (Kd.F_nil _ _ _) (Nat.le_refl 0) (Kd.F_nil _ _ _)) (fun _ hk => hk.elim) (fun _ _ => trivial) HO2.out.row HO2.out.bel HO2.out.bel.size (by have := HOL.out; have := HLEN.out; omega) ?_; intro v1 w4 hR hB hg hat; have HW := Aside0.mk (HO2.out.app hR hB hg); clear hR hB hg hat)
          go_meet
          case rel => exact ⟨by rw [HE.out]; exact HW.out⟩
      case rest =>
      clear htb
      obtain ⟨o, ho⟩ : ∃ l : List S70, l = cutD l2' cuts := ⟨_, rfl⟩
      have HOO := Aside0.mk (show flushD out al cuts = o by rw [ho, HL2'.out]; rfl)
      have HLO := Aside0.mk (show o.length ≤ 1099511627778 by have h1 := HOL.out; have h2 := HLEN.out; rw [ho]; unfold cutD; split <;> simp <;> omega)
      rw [← ho] at hcut
      clear ho HO2 HLEN HL2'
      obtain ⟨A7, n7, hv7⟩ := Kd.N_slice hcut.out.row
      subst hv7
      have HO := hcut
      clear hcut
      have e1 : wc.cell? ⟨ga, 1, none⟩ = some (.slice A1 l1.length c1) := (blk_cell HO.out.bk 1).trans rfl
      by_cases hlt : i < l1.length
      rotate_left
      · have hie : i = l1.length := by omega
        have g3 : ((i : Int) == (l1.length : Int)) = true := beq_iff_eq.mpr (by omega)
        have g3' : (i == l1.length) = true := beq_iff_eq.mpr hie
        have hL := HLI.out
        rw [List.drop_eq_nil_of_le (show l1.length ≤ i by omega), List.drop_eq_nil_of_le (show l2.length ≤ i by have := HL2.out; omega)] at hL
        simp only [dofL] at hL
        rw [if_neg HBG.out, ← HAL.out, HOO.out] at hL
        injection hL with hL
        have HLR := Aside0.mk hL
        clear hL hlt hi hie
        go_wp2
        first | go_ret | go_ret2
        exact ⟨_, rfl, by rw [← HLR.out]; exact HO.out.row, HO.out.bel⟩
      have g3 : ((i : Int) == (l1.length : Int)) = false := beq_eq_false_iff_ne.mpr (by omega)
      have g3' : (i == l1.length) = false := beq_eq_false_iff_ne.mpr (by omega)
      have hL := HLI.out
      have hcv : rdOf false l1 (i : Int) = false := by
        have h1 := HCC.out
        rw [decide_eq_true hlt, Bool.true_and] at h1
        exact h1.symm
      rw [drop_B l1 i hlt, drop_L3 l2 i (by have := HL2.out; omega)] at hL
      simp only [dofL] at hL
      rw [if_neg HBG.out, hcv, if_neg (by decide), ← HAL.out, HOO.out] at hL
      obtain ⟨b, hb, hL⟩ := Option.bind_eq_some_iff.1 hL
      have q2 : (i : Int) < (l2.length : Int) := by have := HL2.out; omega
      obtain ⟨ad2, B2, m2, e2, hx2, hm2, hC2⟩ := at_L3 HR2.out (i : Int) (by omega) q2
      cases e2
      have HX2 := Aside0.mk hx2
      obtain ⟨t, ht⟩ : ∃ a, a = rd_L3 l2 (i : Int) := ⟨_, rfl⟩
      rw [← ht] at HX2 hm2 hC2 hL hb
      have HC2 := Aside0.mk hC2
      have HM2 := Aside0.mk hm2
      have HB := Aside0.mk hb
      have HL := Aside0.mk hL
      have HIG := Aside0.mk (show gl + (i + 1) = l1.length + 1 by have := HI.out; omega)
      have wk : wrap64 ((i : Int) + 1) = (i : Int) + 1 := by have := HLN.out; unfold wrap64; omega
      have hlen := HLO.out
      clear hx2 ht hm2 hC2 hb hL hcv hlt hi HLI HCC
      go_upto_region 17 with (fail)
      go_cut [81] (fun v81 wx => v81 = .bool b ∧ Aside0 (DfO w ga #[.slice (some ad0) l0.length c0, .slice A1 l1.length c1, .slice (some ad2) l2.length c2] o (.slice A7 o.length n7) wx))
      case first =>
        have hb := HB.out
        by_cases hz : 0 < o.length
        · have p0 : 0 ≤ (o.length : Int) - 1 := by omega
          have p0b : decide (1 ≤ (o.length : Int)) = true := decide_eq_true (by omega)
          have p0c : ((1 : Int) ≤ (o.length : Int)) = True := eq_true (by omega)
          have r0 : (o.length : Int) - 1 < (o.length : Int) := by omega
          obtain ⟨go, co, eo, gb, gl2, cells, hblk⟩ := Kd.N_form HO.out.row hz
          injection eo with ea en ec
          subst ea
          subst ec
          clear en
          obtain ⟨ce, hcl, hM, hcc, hfr⟩ := Kd.N_elem HO.out.row z70 ((o.length : Int) - 1) p0 r0
          obtain ⟨D2, k2, D3, k3, rfl, hm2, hF2, hm3, hF3⟩ := k70_openF hM
          have hix : ∀ j, (((o.length : Int) - 1).toNat * k70.sz + j) = (o.length - 1) * 4 + j := fun j => by show (((o.length : Int) - 1).toNat * 4 + j) = _; omega
          have hy0 : wc.cell? ⟨go, (o.length - 1) * 4, none⟩ = some (.int .i64 (rd_T70 o ((o.length : Int) - 1)).f0) := by
            have := hcc 0 _ rfl
            rwa [hix] at this
          have hy2 : wc.cell? ⟨go, (o.length - 1) * 4 + 2, none⟩ = some (.slice D2 (rd_T70 o ((o.length : Int) - 1)).f2.length k2) := by
            have := hcc 2 _ rfl
            rwa [hix] at this
          rw [dofB, if_pos hz] at hb
          by_cases hkp : (rd_T70 o ((o.length : Int) - 1)).f0 = 0
          · rw [if_pos hkp] at hb
            have c4 : ((rd_T70 o ((o.length : Int) - 1)).f0 == 0) = true := beq_iff_eq.mpr hkp
            have HB' := Aside0.mk hb
            have HK2 := Aside0.mk (show (rd_T70 o ((o.length : Int) - 1)).f2.length ≤ k2 from hm2)
            have HF2 := Aside0.mk (show Kd.C k38 wc D2 (rd_T70 o ((o.length : Int) - 1)).f2.length (rd_T70 o ((o.length : Int) - 1)).f2 from Kd.F_now hF2)
            have HX2' := Aside0.mk ((HO.out.bel.cell (World.block_lt_of_cell? w _ HX2.out)).trans HX2.out)
            have hx2 := HX2'.out
            simp only [Int.toNat_natCast] at hx2
            clear hb hm2 hF2 hm3 hF3 hM hcc hcl gb hkp gl2 hblk hfr hix
            refine start_ (n := 23) (S := fun w' => w'.cell? ⟨go, (o.length - 1) * 4, none⟩ = some (.int .i64 (rd_T70 o ((o.length : Int) - 1)).f0) ∧ w'.cell? ⟨go, (o.length - 1) * 4 + 2, none⟩ = some (.slice D2 (rd_T70 o ((o.length : Int) - 1)).f2.length k2) ∧ w'.cell? ⟨ga, 2, none⟩ = some (.slice (some ad2) l2.length c2) ∧ w'.cell? (ad2.add i) = some (.slice B2 t.length m2)) (ds := [21]) #[false, false, false, false, false, false, false, false, false, false, false, false, false, false, false, false, false, false, false, false, false, false, false] (by kernel_rfl) rfl rfl ⟨hy0, hy2, ((blk_cell HO.out.bk 2).trans rfl), hx2⟩ (fun hHeld => ?_)
            refine pure_ (i := 0) (N := some 59) (v := ?_) (a' := ?_) #[true, false, false, false, false, false, false, false, false, false, false, false, false, false, false, false, false, false, false, false, false, false, false] rfl rfl (by kernel_rfl) (fun _ _ _ h => h) (Or.inl ⟨by rfl, ?_⟩) ?_ ?_
            rotate_left
            · intro w'
              go_simp
              with_reducible rfl
            rotate_left
            · simp only [Act.put, List.setIfInBounds_toArray, List.set_cons_zero, List.set_cons_succ, i64_w, i32_w]
              rfl
            refine pure_ (i := 1) (N := some 60) (v := ?_) (a' := ?_) #[true, true, false, false, false, false, false, false, false, false, false, false, false, false, false, false, false, false, false, false, false, false, false] rfl rfl (by kernel_rfl) (fun _ _ _ h => h) (Or.inl ⟨by rfl, ?_⟩) ?_ ?_
            rotate_left
            · intro w'
              go_simp
              with_reducible rfl
            rotate_left
            · simp only [Act.put, List.setIfInBounds_toArray, List.set_cons_zero, List.set_cons_succ, i64_w, i32_w]
              rfl
            refine pure_ (i := 2) (N := some 61) (v := ?_) (a' := ?_) #[true, true, true, false, false, false, false, false, false, false, false, false, false, false, false, false, false, false, false, false, false, false, false] rfl rfl (by kernel_rfl) (fun _ _ _ h => h) (Or.inl ⟨by rfl, ?_⟩) ?_ ?_
            rotate_left
            · intro w'
              go_simp
              with_reducible rfl
            rotate_left
            · simp only [Act.put, List.setIfInBounds_toArray, List.set_cons_zero, List.set_cons_succ, i64_w, i32_w]
              rfl
            refine pure_ (i := 3) (N := some 62) (v := ?_) (a' := ?_) #[true, true, true, true, false, false, false, false, false, false, false, false, false, false, false, false, false, false, false, false, false, false, false] rfl rfl (by kernel_rfl) (fun _ _ _ h => h) (Or.inl ⟨by rfl, ?_⟩) ?_ ?_
            rotate_left
            · intro w'
              go_simp
              with_reducible rfl
            rotate_left
            · simp only [Act.put, List.setIfInBounds_toArray, List.set_cons_zero, List.set_cons_succ, i64_w, i32_w]
              rfl
            refine pure_ (i := 4) (N := some 63) (v := ?_) (a' := ?_) #[true, true, true, true, true, false, false, false, false, false, false, false, false, false, false, false, false, false, false, false, false, false, false] rfl rfl (by kernel_rfl) (fun _ _ _ h => h) (Or.inl ⟨by rfl, ?_⟩) ?_ ?_
            rotate_left
            · intro w'
              go_simp
              with_reducible rfl
            rotate_left
            · simp only [Act.put, List.setIfInBounds_toArray, List.set_cons_zero, List.set_cons_succ, i64_w, i32_w]
              rfl
            refine pure_ (i := 5) (N := some 64) (v := ?_) (a' := ?_) #[true, true, true, true, true, true, false, false, false, false, false, false, false, false, false, false, false, false, false, false, false, false, false] rfl rfl (by kernel_rfl) (fun _ _ _ h => h) (Or.inl ⟨by rfl, ?_⟩) ?_ ?_
            rotate_left
            · intro w'
              go_simp
              with_reducible rfl
            rotate_left
            · simp only [Act.put, List.setIfInBounds_toArray, List.set_cons_zero, List.set_cons_succ, i64_w, i32_w]
              rfl
            refine pure_ (i := 6) (N := some 65) (v := ?_) (a' := ?_) #[true, true, true, true, true, true, true, false, false, false, false, false, false, false, false, false, false, false, false, false, false, false, false] rfl rfl (by kernel_rfl) (fun _ _ _ h => h) (Or.inl ⟨by rfl, ?_⟩) ?_ ?_
            rotate_left
            · intro w'
              go_simp
              with_reducible rfl
            rotate_left
            · simp only [Act.put, List.setIfInBounds_toArray, List.set_cons_zero, List.set_cons_succ, i64_w, i32_w]
              rfl
            refine take_ (i := 7) (N := some 66) (v := ?_) (a' := ?_) #[true, true, true, true, true, true, true, true, false, false, false, false, false, false, false, false, false, false, false, false, false, false, false] rfl rfl (by kernel_rfl) (fun _ _ _ h => h) (Or.inl ⟨by rfl, ?_⟩) hHeld ?_ ?_
            rotate_left
            · rintro w' ⟨s0, s1, s2, s3⟩
              go_simp
              with_reducible rfl
            rotate_left
            · simp only [Act.put, List.setIfInBounds_toArray, List.set_cons_zero, List.set_cons_succ, i64_w, i32_w]
              rfl
            refine pure_ (i := 8) (N := some 67) (v := ?_) (a' := ?_) #[true, true, true, true, true, true, true, true, true, false, false, false, false, false, false, false, false, false, false, false, false, false, false] rfl rfl (by kernel_rfl) (fun _ _ _ h => h) (Or.inl ⟨by rfl, ?_⟩) ?_ ?_
            rotate_left
            · intro w'
              go_simp
              with_reducible rfl
            rotate_left
            · simp only [Act.put, List.setIfInBounds_toArray, List.set_cons_zero, List.set_cons_succ, i64_w, i32_w]
              rfl
            refine pure_ (i := 9) (N := some 68) (v := ?_) (a' := ?_) #[true, true, true, true, true, true, true, true, true, true, false, false, false, false, false, false, false, false, false, false, false, false, false] rfl rfl (by kernel_rfl) (fun _ _ _ h => h) (Or.inl ⟨by rfl, ?_⟩) ?_ ?_
            rotate_left
            · intro w'
              go_simp
              with_reducible rfl
            rotate_left
            · simp only [Act.put, List.setIfInBounds_toArray, List.set_cons_zero, List.set_cons_succ, i64_w, i32_w]
              rfl
            refine pure_ (i := 10) (N := some 69) (v := ?_) (a' := ?_) #[true, true, true, true, true, true, true, true, true, true, true, false, false, false, false, false, false, false, false, false, false, false, false] rfl rfl (by kernel_rfl) (fun _ _ _ h => h) (Or.inl ⟨by rfl, ?_⟩) ?_ ?_
            rotate_left
            · intro w'
              go_simp
              with_reducible rfl
            rotate_left
            · simp only [Act.put, List.setIfInBounds_toArray, List.set_cons_zero, List.set_cons_succ, i64_w, i32_w]
              rfl
            refine pure_ (i := 11) (N := some 70) (v := ?_) (a' := ?_) #[true, true, true, true, true, true, true, true, true, true, true, true, false, false, false, false, false, false, false, false, false, false, false] rfl rfl (by kernel_rfl) (fun _ _ _ h => h) (Or.inl ⟨by rfl, ?_⟩) ?_ ?_
            rotate_left
            · intro w'
              go_simp
              with_reducible rfl
            rotate_left
            · simp only [Act.put, List.setIfInBounds_toArray, List.set_cons_zero, List.set_cons_succ, i64_w, i32_w]
              rfl
            refine pure_ (i := 12) (N := some 71) (v := ?_) (a' := ?_) #[true, true, true, true, true, true, true, true, true, true, true, true, true, false, false, false, false, false, false, false, false, false, false] rfl rfl (by kernel_rfl) (fun _ _ _ h => h) (Or.inl ⟨by rfl, ?_⟩) ?_ ?_
            rotate_left
            · intro w'
              go_simp
              with_reducible rfl
            rotate_left
            · simp only [Act.put, List.setIfInBounds_toArray, List.set_cons_zero, List.set_cons_succ, i64_w, i32_w]
              rfl
            refine pure_ (i := 13) (N := some 72) (v := ?_) (a' := ?_) #[true, true, true, true, true, true, true, true, true, true, true, true, true, true, false, false, false, false, false, false, false, false, false] rfl rfl (by kernel_rfl) (fun _ _ _ h => h) (Or.inl ⟨by rfl, ?_⟩) ?_ ?_
            rotate_left
            · intro w'
              go_simp
              with_reducible rfl
            rotate_left
            · simp only [Act.put, List.setIfInBounds_toArray, List.set_cons_zero, List.set_cons_succ, i64_w, i32_w]
              rfl
            refine pure_ (i := 14) (N := some 73) (v := ?_) (a' := ?_) #[true, true, true, true, true, true, true, true, true, true, true, true, true, true, true, false, false, false, false, false, false, false, false] rfl rfl (by kernel_rfl) (fun _ _ _ h => h) (Or.inl ⟨by rfl, ?_⟩) ?_ ?_
            rotate_left
            · intro w'
              go_simp
              with_reducible rfl
            rotate_left
            · simp only [Act.put, List.setIfInBounds_toArray, List.set_cons_zero, List.set_cons_succ, i64_w, i32_w]
              rfl
            refine pure_ (i := 16) (N := some 75) (v := ?_) (a' := ?_) #[true, true, true, true, true, true, true, true, true, true, true, true, true, true, true, false, true, false, false, false, false, false, false] rfl rfl (by kernel_rfl) (fun _ _ _ h => h) (Or.inl ⟨by rfl, ?_⟩) ?_ ?_
            rotate_left
            · intro w'
              go_simp
              with_reducible rfl
            rotate_left
            · simp only [Act.put, List.setIfInBounds_toArray, List.set_cons_zero, List.set_cons_succ, i64_w, i32_w]
              rfl
            refine pure_ (i := 18) (N := some 77) (v := ?_) (a' := ?_) #[true, true, true, true, true, true, true, true, true, true, true, true, true, true, true, false, true, false, true, false, false, false, false] rfl rfl (by kernel_rfl) (fun _ _ _ h => h) (Or.inl ⟨by rfl, ?_⟩) ?_ ?_
            rotate_left
            · intro w'
              go_simp
              with_reducible rfl
            rotate_left
            · simp only [Act.put, List.setIfInBounds_toArray, List.set_cons_zero, List.set_cons_succ, i64_w, i32_w]
              rfl
            refine take_ (i := 15) (N := some 74) (v := ?_) (a' := ?_) #[true, true, true, true, true, true, true, true, true, true, true, true, true, true, true, true, true, false, true, false, false, false, false] rfl rfl (by kernel_rfl) (fun _ _ _ h => h) (Or.inl ⟨by rfl, ?_⟩) hHeld ?_ ?_
            rotate_left
            · rintro w' ⟨s0, s1, s2, s3⟩
              go_simp
              with_reducible rfl
            rotate_left
            · simp only [Act.put, List.setIfInBounds_toArray, List.set_cons_zero, List.set_cons_succ, i64_w, i32_w]
              rfl
            refine take_ (i := 17) (N := some 76) (v := ?_) (a' := ?_) #[true, true, true, true, true, true, true, true, true, true, true, true, true, true, true, true, true, true, true, false, false, false, false] rfl rfl (by kernel_rfl) (fun _ _ _ h => h) (Or.inl ⟨by rfl, ?_⟩) hHeld ?_ ?_
            rotate_left
            · rintro w' ⟨s0, s1, s2, s3⟩
              go_simp
              with_reducible rfl
            rotate_left
            · simp only [Act.put, List.setIfInBounds_toArray, List.set_cons_zero, List.set_cons_succ, i64_w, i32_w]
              rfl
            refine pure_ (i := 19) (N := some 78) (v := ?_) (a' := ?_) #[true, true, true, true, true, true, true, true, true, true, true, true, true, true, true, true, true, true, true, true, false, false, false] rfl rfl (by kernel_rfl) (fun _ _ _ h => h) (Or.inl ⟨by rfl, ?_⟩) ?_ ?_
            rotate_left
            · intro w'
              go_simp
              with_reducible rfl
            rotate_left
            · simp only [Act.put, List.setIfInBounds_toArray, List.set_cons_zero, List.set_cons_succ, i64_w, i32_w]
              rfl
            refine take_ (i := 20) (N := some 79) (v := ?_) (a' := ?_) #[true, true, true, true, true, true, true, true, true, true, true, true, true, true, true, true, true, true, true, true, true, false, false] rfl rfl (by kernel_rfl) (fun _ _ _ h => h) (Or.inl ⟨by rfl, ?_⟩) hHeld ?_ ?_
            rotate_left
            · rintro w' ⟨s0, s1, s2, s3⟩
              go_simp
              with_reducible rfl
            rotate_left
            · simp only [Act.put, List.setIfInBounds_toArray, List.set_cons_zero, List.set_cons_succ, i64_w, i32_w]
              rfl
            refine last_ (i := 21) (N := some 80) #[true, true, true, true, true, true, true, true, true, true, true, true, true, true, true, true, true, true, true, true, true, true, false] rfl rfl (by kernel_rfl) (by decide) (fun K hK => ?_)
            refine goes_ Try.func25 (by kernel_rfl) rfl #[.slice D2 (rd_T70 o ((o.length : Int) - 1)).f2.length k2, .slice B2 t.length m2] (by rfl) rfl rfl (by simp only [List.map_toArray, List.map_cons, List.map_nil]; rfl) ?_
            with_reducible refine (chanceryref1_SameAttrs.calls k D2 k2 (rd_T70 o ((o.length : Int) - 1)).f2 B2 m2 t b _ (Kd.C_drew HF2.out) HK2.out (Kd.C_below HC2.out HO.out.drew.bel) HM2.out HB'.out).mono ?_
            rintro e w9 ⟨rfl, hb9⟩
            refine ⟨_, rfl, ?_⟩
            obtain ⟨nd, rfl⟩ := hb9
            have HO9 := Aside0.mk (HO.out.drew.drewN nd)
            refine hK.out _ _ ?_
            clear hK K
            refine norm_ (a' := ?_) ?_ ?_
            rotate_left
            · show Act.put _ (some 80) _ = _
              simp only [Act.put, List.setIfInBounds_toArray, List.set_cons_zero, List.set_cons_succ, i64_w, i32_w]
              rfl
            refine pure_ (i := 22) (N := some 81) (v := ?_) (a' := ?_) #[true, true, true, true, true, true, true, true, true, true, true, true, true, true, true, true, true, true, true, true, true, true, true] rfl rfl (by kernel_rfl) (fun _ _ _ h => h) (Or.inl ⟨by rfl, ?_⟩) ?_ ?_
            rotate_left
            · intro w'
              go_simp
              with_reducible rfl
            rotate_left
            · simp only [Act.put, List.setIfInBounds_toArray, List.set_cons_zero, List.set_cons_succ, i64_w, i32_w]
              rfl
            refine done_ (by kernel_rfl) ?_
            go_wp2
            go_meet
            case rel => exact ⟨by cases b <;> rfl, HO9⟩
          · rw [if_neg hkp] at hb
            obtain rfl := Option.some.inj hb
            have c4 : ((rd_T70 o ((o.length : Int) - 1)).f0 == 0) = false := beq_eq_false_iff_ne.mpr hkp
            clear hb hm2 hF2 hm3 hF3 hM hcc hcl gb hkp gl2 hblk hfr hix
            refine start_ (n := 23) (S := fun w' => w'.cell? ⟨go, (o.length - 1) * 4, none⟩ = some (.int .i64 (rd_T70 o ((o.length : Int) - 1)).f0)) (ds := []) #[false, false, false, false, false, false, false, false, false, false, false, false, false, false, false, false, false, false, false, false, false, false, false] (by kernel_rfl) rfl rfl (hy0) (fun hHeld => ?_)
            refine pure_ (i := 0) (N := some 59) (v := ?_) (a' := ?_) #[true, false, false, false, false, false, false, false, false, false, false, false, false, false, false, false, false, false, false, false, false, false, false] rfl rfl (by kernel_rfl) (fun _ _ _ h => h) (Or.inl ⟨by rfl, ?_⟩) ?_ ?_
            rotate_left
            · intro w'
              go_simp
              with_reducible rfl
            rotate_left
            · simp only [Act.put, List.setIfInBounds_toArray, List.set_cons_zero, List.set_cons_succ, i64_w, i32_w]
              rfl
            refine pure_ (i := 1) (N := some 60) (v := ?_) (a' := ?_) #[true, true, false, false, false, false, false, false, false, false, false, false, false, false, false, false, false, false, false, false, false, false, false] rfl rfl (by kernel_rfl) (fun _ _ _ h => h) (Or.inl ⟨by rfl, ?_⟩) ?_ ?_
            rotate_left
            · intro w'
              go_simp
              with_reducible rfl
            rotate_left
            · simp only [Act.put, List.setIfInBounds_toArray, List.set_cons_zero, List.set_cons_succ, i64_w, i32_w]
              rfl
            refine pure_ (i := 2) (N := some 61) (v := ?_) (a' := ?_) #[true, true, true, false, false, false, false, false, false, false, false, false, false, false, false, false, false, false, false, false, false, false, false] rfl rfl (by kernel_rfl) (fun _ _ _ h => h) (Or.inl ⟨by rfl, ?_⟩) ?_ ?_
            rotate_left
            · intro w'
              go_simp
              with_reducible rfl
            rotate_left
            · simp only [Act.put, List.setIfInBounds_toArray, List.set_cons_zero, List.set_cons_succ, i64_w, i32_w]
              rfl
            refine pure_ (i := 3) (N := some 62) (v := ?_) (a' := ?_) #[true, true, true, true, false, false, false, false, false, false, false, false, false, false, false, false, false, false, false, false, false, false, false] rfl rfl (by kernel_rfl) (fun _ _ _ h => h) (Or.inl ⟨by rfl, ?_⟩) ?_ ?_
            rotate_left
            · intro w'
              go_simp
              with_reducible rfl
            rotate_left
            · simp only [Act.put, List.setIfInBounds_toArray, List.set_cons_zero, List.set_cons_succ, i64_w, i32_w]
              rfl
            refine pure_ (i := 4) (N := some 63) (v := ?_) (a' := ?_) #[true, true, true, true, true, false, false, false, false, false, false, false, false, false, false, false, false, false, false, false, false, false, false] rfl rfl (by kernel_rfl) (fun _ _ _ h => h) (Or.inl ⟨by rfl, ?_⟩) ?_ ?_
            rotate_left
            · intro w'
              go_simp
              with_reducible rfl
            rotate_left
            · simp only [Act.put, List.setIfInBounds_toArray, List.set_cons_zero, List.set_cons_succ, i64_w, i32_w]
              rfl
            refine pure_ (i := 5) (N := some 64) (v := ?_) (a' := ?_) #[true, true, true, true, true, true, false, false, false, false, false, false, false, false, false, false, false, false, false, false, false, false, false] rfl rfl (by kernel_rfl) (fun _ _ _ h => h) (Or.inl ⟨by rfl, ?_⟩) ?_ ?_
            rotate_left
            · intro w'
              go_simp
              with_reducible rfl
            rotate_left
            · simp only [Act.put, List.setIfInBounds_toArray, List.set_cons_zero, List.set_cons_succ, i64_w, i32_w]
              rfl
            refine pure_ (i := 6) (N := some 65) (v := ?_) (a' := ?_) #[true, true, true, true, true, true, true, false, false, false, false, false, false, false, false, false, false, false, false, false, false, false, false] rfl rfl (by kernel_rfl) (fun _ _ _ h => h) (Or.inl ⟨by rfl, ?_⟩) ?_ ?_
            rotate_left
            · intro w'
              go_simp
              with_reducible rfl
            rotate_left
            · simp only [Act.put, List.setIfInBounds_toArray, List.set_cons_zero, List.set_cons_succ, i64_w, i32_w]
              rfl
            refine take_ (i := 7) (N := some 66) (v := ?_) (a' := ?_) #[true, true, true, true, true, true, true, true, false, false, false, false, false, false, false, false, false, false, false, false, false, false, false] rfl rfl (by kernel_rfl) (fun _ _ _ h => h) (Or.inl ⟨by rfl, ?_⟩) hHeld ?_ ?_
            rotate_left
            · intro w' s0
              go_simp
              with_reducible rfl
            rotate_left
            · simp only [Act.put, List.setIfInBounds_toArray, List.set_cons_zero, List.set_cons_succ, i64_w, i32_w]
              rfl
            refine pure_ (i := 8) (N := some 67) (v := ?_) (a' := ?_) #[true, true, true, true, true, true, true, true, true, false, false, false, false, false, false, false, false, false, false, false, false, false, false] rfl rfl (by kernel_rfl) (fun _ _ _ h => h) (Or.inl ⟨by rfl, ?_⟩) ?_ ?_
            rotate_left
            · intro w'
              go_simp
              with_reducible rfl
            rotate_left
            · simp only [Act.put, List.setIfInBounds_toArray, List.set_cons_zero, List.set_cons_succ, i64_w, i32_w]
              rfl
            refine pure_ (i := 9) (N := some 68) (v := ?_) (a' := ?_) #[true, true, true, true, true, true, true, true, true, true, false, false, false, false, false, false, false, false, false, false, false, false, false] rfl rfl (by kernel_rfl) (fun _ _ _ h => h) (Or.inl ⟨by rfl, ?_⟩) ?_ ?_
            rotate_left
            · intro w'
              go_simp
              with_reducible rfl
            rotate_left
            · simp only [Act.put, List.setIfInBounds_toArray, List.set_cons_zero, List.set_cons_succ, i64_w, i32_w]
              rfl
            refine pure_ (i := 10) (N := some 69) (v := ?_) (a' := ?_) #[true, true, true, true, true, true, true, true, true, true, true, false, false, false, false, false, false, false, false, false, false, false, false] rfl rfl (by kernel_rfl) (fun _ _ _ h => h) (Or.inl ⟨by rfl, ?_⟩) ?_ ?_
            rotate_left
            · intro w'
              go_simp
              with_reducible rfl
            rotate_left
            · simp only [Act.put, List.setIfInBounds_toArray, List.set_cons_zero, List.set_cons_succ, i64_w, i32_w]
              rfl
            refine pure_ (i := 11) (N := some 70) (v := undef) (a' := ?_) #[true, true, true, true, true, true, true, true, true, true, true, true, false, false, false, false, false, false, false, false, false, false, false] rfl rfl (by kernel_rfl) (fun _ _ _ h => h) (Or.inr ⟨by rfl, rfl⟩) ?_ ?_
            rotate_left
            · simp only [Act.put, List.setIfInBounds_toArray, List.set_cons_zero, List.set_cons_succ, i64_w, i32_w]
              rfl
            refine pure_ (i := 12) (N := some 71) (v := undef) (a' := ?_) #[true, true, true, true, true, true, true, true, true, true, true, true, true, false, false, false, false, false, false, false, false, false, false] rfl rfl (by kernel_rfl) (fun _ _ _ h => h) (Or.inr ⟨by rfl, rfl⟩) ?_ ?_
            rotate_left
            · simp only [Act.put, List.setIfInBounds_toArray, List.set_cons_zero, List.set_cons_succ, i64_w, i32_w]
              rfl
            refine pure_ (i := 13) (N := some 72) (v := undef) (a' := ?_) #[true, true, true, true, true, true, true, true, true, true, true, true, true, true, false, false, false, false, false, false, false, false, false] rfl rfl (by kernel_rfl) (fun _ _ _ h => h) (Or.inr ⟨by rfl, rfl⟩) ?_ ?_
            rotate_left
            · simp only [Act.put, List.setIfInBounds_toArray, List.set_cons_zero, List.set_cons_succ, i64_w, i32_w]
              rfl
            refine pure_ (i := 14) (N := some 73) (v := undef) (a' := ?_) #[true, true, true, true, true, true, true, true, true, true, true, true, true, true, true, false, false, false, false, false, false, false, false] rfl rfl (by kernel_rfl) (fun _ _ _ h => h) (Or.inr ⟨by rfl, rfl⟩) ?_ ?_
            rotate_left
            · simp only [Act.put, List.setIfInBounds_toArray, List.set_cons_zero, List.set_cons_succ, i64_w, i32_w]
              rfl
            refine pure_ (i := 15) (N := some 74) (v := undef) (a' := ?_) #[true, true, true, true, true, true, true, true, true, true, true, true, true, true, true, true, false, false, false, false, false, false, false] rfl rfl (by kernel_rfl) (fun _ _ _ h => h) (Or.inr ⟨by rfl, rfl⟩) ?_ ?_
            rotate_left
            · simp only [Act.put, List.setIfInBounds_toArray, List.set_cons_zero, List.set_cons_succ, i64_w, i32_w]
              rfl
            refine pure_ (i := 16) (N := some 75) (v := undef) (a' := ?_) #[true, true, true, true, true, true, true, true, true, true, true, true, true, true, true, true, true, false, false, false, false, false, false] rfl rfl (by kernel_rfl) (fun _ _ _ h => h) (Or.inr ⟨by rfl, rfl⟩) ?_ ?_
            rotate_left
            · simp only [Act.put, List.setIfInBounds_toArray, List.set_cons_zero, List.set_cons_succ, i64_w, i32_w]
              rfl
            refine pure_ (i := 17) (N := some 76) (v := undef) (a' := ?_) #[true, true, true, true, true, true, true, true, true, true, true, true, true, true, true, true, true, true, false, false, false, false, false] rfl rfl (by kernel_rfl) (fun _ _ _ h => h) (Or.inr ⟨by rfl, rfl⟩) ?_ ?_
            rotate_left
            · simp only [Act.put, List.setIfInBounds_toArray, List.set_cons_zero, List.set_cons_succ, i64_w, i32_w]
              rfl
            refine pure_ (i := 18) (N := some 77) (v := undef) (a' := ?_) #[true, true, true, true, true, true, true, true, true, true, true, true, true, true, true, true, true, true, true, false, false, false, false] rfl rfl (by kernel_rfl) (fun _ _ _ h => h) (Or.inr ⟨by rfl, rfl⟩) ?_ ?_
            rotate_left
            · simp only [Act.put, List.setIfInBounds_toArray, List.set_cons_zero, List.set_cons_succ, i64_w, i32_w]
              rfl
            refine pure_ (i := 19) (N := some 78) (v := undef) (a' := ?_) #[true, true, true, true, true, true, true, true, true, true, true, true, true, true, true, true, true, true, true, true, false, false, false] rfl rfl (by kernel_rfl) (fun _ _ _ h => h) (Or.inr ⟨by rfl, rfl⟩) ?_ ?_
            rotate_left
            · simp only [Act.put, List.setIfInBounds_toArray, List.set_cons_zero, List.set_cons_succ, i64_w, i32_w]
              rfl
            refine pure_ (i := 20) (N := some 79) (v := undef) (a' := ?_) #[true, true, true, true, true, true, true, true, true, true, true, true, true, true, true, true, true, true, true, true, true, false, false] rfl rfl (by kernel_rfl) (fun _ _ _ h => h) (Or.inr ⟨by rfl, rfl⟩) ?_ ?_
            rotate_left
            · simp only [Act.put, List.setIfInBounds_toArray, List.set_cons_zero, List.set_cons_succ, i64_w, i32_w]
              rfl
            refine pure_ (i := 21) (N := some 80) (v := undef) (a' := ?_) #[true, true, true, true, true, true, true, true, true, true, true, true, true, true, true, true, true, true, true, true, true, true, false] rfl rfl (by kernel_rfl) (fun _ _ _ h => h) (Or.inr ⟨by rfl, rfl⟩) ?_ ?_
            rotate_left
            · simp only [Act.put, List.setIfInBounds_toArray, List.set_cons_zero, List.set_cons_succ, i64_w, i32_w]
              rfl
            refine pure_ (i := 22) (N := some 81) (v := ?_) (a' := ?_) #[true, true, true, true, true, true, true, true, true, true, true, true, true, true, true, true, true, true, true, true, true, true, true] rfl rfl (by kernel_rfl) (fun _ _ _ h => h) (Or.inl ⟨by rfl, ?_⟩) ?_ ?_
            rotate_left
            · intro w'
              go_simp
              with_reducible rfl
            rotate_left
            · simp only [Act.put, List.setIfInBounds_toArray, List.set_cons_zero, List.set_cons_succ, i64_w, i32_w]
              rfl
            refine done_ (by kernel_rfl) ?_
            go_wp2
            go_meet
            case rel => exact ⟨rfl, ⟨HO.out.drew⟩⟩
        · have hnil : o = [] := List.eq_nil_of_length_eq_zero (by omega)
          subst hnil
          rw [dofB, if_neg (by decide)] at hb
          obtain rfl := Option.some.inj hb
          refine start_ (n := 23) (S := fun w' => True) (ds := []) #[false, false, false, false, false, false, false, false, false, false, false, false, false, false, false, false, false, false, false, false, false, false, false] (by kernel_rfl) rfl rfl trivial (fun hHeld => ?_)
          refine pure_ (i := 0) (N := some 59) (v := ?_) (a' := ?_) #[true, false, false, false, false, false, false, false, false, false, false, false, false, false, false, false, false, false, false, false, false, false, false] rfl rfl (by kernel_rfl) (fun _ _ _ h => h) (Or.inl ⟨by rfl, ?_⟩) ?_ ?_
          rotate_left
          · intro w'
            go_simp
            with_reducible rfl
          rotate_left
          · simp only [Act.put, List.setIfInBounds_toArray, List.set_cons_zero, List.set_cons_succ, i64_w, i32_w]
            rfl
          refine pure_ (i := 1) (N := some 60) (v := ?_) (a' := ?_) #[true, true, false, false, false, false, false, false, false, false, false, false, false, false, false, false, false, false, false, false, false, false, false] rfl rfl (by kernel_rfl) (fun _ _ _ h => h) (Or.inl ⟨by rfl, ?_⟩) ?_ ?_
          rotate_left
          · intro w'
            go_simp
            with_reducible rfl
          rotate_left
          · simp only [Act.put, List.setIfInBounds_toArray, List.set_cons_zero, List.set_cons_succ, i64_w, i32_w]
            rfl
          refine pure_ (i := 2) (N := some 61) (v := ?_) (a' := ?_) #[true, true, true, false, false, false, false, false, false, false, false, false, false, false, false, false, false, false, false, false, false, false, false] rfl rfl (by kernel_rfl) (fun _ _ _ h => h) (Or.inl ⟨by rfl, ?_⟩) ?_ ?_
          rotate_left
          · intro w'
            go_simp
            with_reducible rfl
          rotate_left
          · simp only [Act.put, List.setIfInBounds_toArray, List.set_cons_zero, List.set_cons_succ, i64_w, i32_w]
            rfl
          refine pure_ (i := 3) (N := some 62) (v := undef) (a' := ?_) #[true, true, true, true, false, false, false, false, false, false, false, false, false, false, false, false, false, false, false, false, false, false, false] rfl rfl (by kernel_rfl) (fun _ _ _ h => h) (Or.inr ⟨by rfl, rfl⟩) ?_ ?_
          rotate_left
          · simp only [Act.put, List.setIfInBounds_toArray, List.set_cons_zero, List.set_cons_succ, i64_w, i32_w]
            rfl
          refine pure_ (i := 4) (N := some 63) (v := undef) (a' := ?_) #[true, true, true, true, true, false, false, false, false, false, false, false, false, false, false, false, false, false, false, false, false, false, false] rfl rfl (by kernel_rfl) (fun _ _ _ h => h) (Or.inr ⟨by rfl, rfl⟩) ?_ ?_
          rotate_left
          · simp only [Act.put, List.setIfInBounds_toArray, List.set_cons_zero, List.set_cons_succ, i64_w, i32_w]
            rfl
          refine pure_ (i := 5) (N := some 64) (v := undef) (a' := ?_) #[true, true, true, true, true, true, false, false, false, false, false, false, false, false, false, false, false, false, false, false, false, false, false] rfl rfl (by kernel_rfl) (fun _ _ _ h => h) (Or.inr ⟨by rfl, rfl⟩) ?_ ?_
          rotate_left
          · simp only [Act.put, List.setIfInBounds_toArray, List.set_cons_zero, List.set_cons_succ, i64_w, i32_w]
            rfl
          refine pure_ (i := 6) (N := some 65) (v := undef) (a' := ?_) #[true, true, true, true, true, true, true, false, false, false, false, false, false, false, false, false, false, false, false, false, false, false, false] rfl rfl (by kernel_rfl) (fun _ _ _ h => h) (Or.inr ⟨by rfl, rfl⟩) ?_ ?_
          rotate_left
          · simp only [Act.put, List.setIfInBounds_toArray, List.set_cons_zero, List.set_cons_succ, i64_w, i32_w]
            rfl
          refine pure_ (i := 7) (N := some 66) (v := undef) (a' := ?_) #[true, true, true, true, true, true, true, true, false, false, false, false, false, false, false, false, false, false, false, false, false, false, false] rfl rfl (by kernel_rfl) (fun _ _ _ h => h) (Or.inr ⟨by rfl, rfl⟩) ?_ ?_
          rotate_left
          · simp only [Act.put, List.setIfInBounds_toArray, List.set_cons_zero, List.set_cons_succ, i64_w, i32_w]
            rfl
          refine pure_ (i := 8) (N := some 67) (v := undef) (a' := ?_) #[true, true, true, true, true, true, true, true, true, false, false, false, false, false, false, false, false, false, false, false, false, false, false] rfl rfl (by kernel_rfl) (fun _ _ _ h => h) (Or.inr ⟨by rfl, rfl⟩) ?_ ?_
          rotate_left
          · simp only [Act.put, List.setIfInBounds_toArray, List.set_cons_zero, List.set_cons_succ, i64_w, i32_w]
            rfl
          refine pure_ (i := 9) (N := some 68) (v := ?_) (a' := ?_) #[true, true, true, true, true, true, true, true, true, true, false, false, false, false, false, false, false, false, false, false, false, false, false] rfl rfl (by kernel_rfl) (fun _ _ _ h => h) (Or.inl ⟨by rfl, ?_⟩) ?_ ?_
          rotate_left
          · intro w'
            go_simp
            with_reducible rfl
          rotate_left
          · simp only [Act.put, List.setIfInBounds_toArray, List.set_cons_zero, List.set_cons_succ, i64_w, i32_w]
            rfl
          refine pure_ (i := 10) (N := some 69) (v := ?_) (a' := ?_) #[true, true, true, true, true, true, true, true, true, true, true, false, false, false, false, false, false, false, false, false, false, false, false] rfl rfl (by kernel_rfl) (fun _ _ _ h => h) (Or.inl ⟨by rfl, ?_⟩) ?_ ?_
          rotate_left
          · intro w'
            go_simp
            with_reducible rfl
          rotate_left
          · simp only [Act.put, List.setIfInBounds_toArray, List.set_cons_zero, List.set_cons_succ, i64_w, i32_w]
            rfl
          refine pure_ (i := 11) (N := some 70) (v := undef) (a' := ?_) #[true, true, true, true, true, true, true, true, true, true, true, true, false, false, false, false, false, false, false, false, false, false, false] rfl rfl (by kernel_rfl) (fun _ _ _ h => h) (Or.inr ⟨by rfl, rfl⟩) ?_ ?_
          rotate_left
          · simp only [Act.put, List.setIfInBounds_toArray, List.set_cons_zero, List.set_cons_succ, i64_w, i32_w]
            rfl
          refine pure_ (i := 12) (N := some 71) (v := undef) (a' := ?_) #[true, true, true, true, true, true, true, true, true, true, true, true, true, false, false, false, false, false, false, false, false, false, false] rfl rfl (by kernel_rfl) (fun _ _ _ h => h) (Or.inr ⟨by rfl, rfl⟩) ?_ ?_
          rotate_left
          · simp only [Act.put, List.setIfInBounds_toArray, List.set_cons_zero, List.set_cons_succ, i64_w, i32_w]
            rfl
          refine pure_ (i := 13) (N := some 72) (v := undef) (a' := ?_) #[true, true, true, true, true, true, true, true, true, true, true, true, true, true, false, false, false, false, false, false, false, false, false] rfl rfl (by kernel_rfl) (fun _ _ _ h => h) (Or.inr ⟨by rfl, rfl⟩) ?_ ?_
          rotate_left
          · simp only [Act.put, List.setIfInBounds_toArray, List.set_cons_zero, List.set_cons_succ, i64_w, i32_w]
            rfl
          refine pure_ (i := 14) (N := some 73) (v := undef) (a' := ?_) #[true, true, true, true, true, true, true, true, true, true, true, true, true, true, true, false, false, false, false, false, false, false, false] rfl rfl (by kernel_rfl) (fun _ _ _ h => h) (Or.inr ⟨by rfl, rfl⟩) ?_ ?_
          rotate_left
          · simp only [Act.put, List.setIfInBounds_toArray, List.set_cons_zero, List.set_cons_succ, i64_w, i32_w]
            rfl
          refine pure_ (i := 15) (N := some 74) (v := undef) (a' := ?_) #[true, true, true, true, true, true, true, true, true, true, true, true, true, true, true, true, false, false, false, false, false, false, false] rfl rfl (by kernel_rfl) (fun _ _ _ h => h) (Or.inr ⟨by rfl, rfl⟩) ?_ ?_
          rotate_left
          · simp only [Act.put, List.setIfInBounds_toArray, List.set_cons_zero, List.set_cons_succ, i64_w, i32_w]
            rfl
          refine pure_ (i := 16) (N := some 75) (v := undef) (a' := ?_) #[true, true, true, true, true, true, true, true, true, true, true, true, true, true, true, true, true, false, false, false, false, false, false] rfl rfl (by kernel_rfl) (fun _ _ _ h => h) (Or.inr ⟨by rfl, rfl⟩) ?_ ?_
          rotate_left
          · simp only [Act.put, List.setIfInBounds_toArray, List.set_cons_zero, List.set_cons_succ, i64_w, i32_w]
            rfl
          refine pure_ (i := 17) (N := some 76) (v := undef) (a' := ?_) #[true, true, true, true, true, true, true, true, true, true, true, true, true, true, true, true, true, true, false, false, false, false, false] rfl rfl (by kernel_rfl) (fun _ _ _ h => h) (Or.inr ⟨by rfl, rfl⟩) ?_ ?_
          rotate_left
          · simp only [Act.put, List.setIfInBounds_toArray, List.set_cons_zero, List.set_cons_succ, i64_w, i32_w]
            rfl
          refine pure_ (i := 18) (N := some 77) (v := undef) (a' := ?_) #[true, true, true, true, true, true, true, true, true, true, true, true, true, true, true, true, true, true, true, false, false, false, false] rfl rfl (by kernel_rfl) (fun _ _ _ h => h) (Or.inr ⟨by rfl, rfl⟩) ?_ ?_
          rotate_left
          · simp only [Act.put, List.setIfInBounds_toArray, List.set_cons_zero, List.set_cons_succ, i64_w, i32_w]
            rfl
          refine pure_ (i := 19) (N := some 78) (v := undef) (a' := ?_) #[true, true, true, true, true, true, true, true, true, true, true, true, true, true, true, true, true, true, true, true, false, false, false] rfl rfl (by kernel_rfl) (fun _ _ _ h => h) (Or.inr ⟨by rfl, rfl⟩) ?_ ?_
          rotate_left
          · simp only [Act.put, List.setIfInBounds_toArray, List.set_cons_zero, List.set_cons_succ, i64_w, i32_w]
            rfl
          refine pure_ (i := 20) (N := some 79) (v := undef) (a' := ?_) #[true, true, true, true, true, true, true, true, true, true, true, true, true, true, true, true, true, true, true, true, true, false, false] rfl rfl (by kernel_rfl) (fun _ _ _ h => h) (Or.inr ⟨by rfl, rfl⟩) ?_ ?_
          rotate_left
          · simp only [Act.put, List.setIfInBounds_toArray, List.set_cons_zero, List.set_cons_succ, i64_w, i32_w]
            rfl
          refine pure_ (i := 21) (N := some 80) (v := undef) (a' := ?_) #[true, true, true, true, true, true, true, true, true, true, true, true, true, true, true, true, true, true, true, true, true, true, false] rfl rfl (by kernel_rfl) (fun _ _ _ h => h) (Or.inr ⟨by rfl, rfl⟩) ?_ ?_
          rotate_left
          · simp only [Act.put, List.setIfInBounds_toArray, List.set_cons_zero, List.set_cons_succ, i64_w, i32_w]
            rfl
          refine pure_ (i := 22) (N := some 81) (v := ?_) (a' := ?_) #[true, true, true, true, true, true, true, true, true, true, true, true, true, true, true, true, true, true, true, true, true, true, true] rfl rfl (by kernel_rfl) (fun _ _ _ h => h) (Or.inl ⟨by rfl, ?_⟩) ?_ ?_
          rotate_left
          · intro w'
            go_simp
            with_reducible rfl
          rotate_left
          · simp only [Act.put, List.setIfInBounds_toArray, List.set_cons_zero, List.set_cons_succ, i64_w, i32_w]
            rfl
          refine done_ (by kernel_rfl) ?_
          go_wp2
          go_meet
          case rel => exact ⟨rfl, ⟨HO.out.drew⟩⟩
      case rest =>
      obtain ⟨rfl, HO9⟩ := hcut
      clear HO e1
      cases b with
      | true =>
        have hz : 0 < o.length := by
          have hb := HB.out
          rw [dofB] at hb
          by_cases hz : 0 < o.length
          · exact hz
          · rw [if_neg hz] at hb; cases hb
        have p0 : 0 ≤ (o.length : Int) - 1 := by omega
        have r0 : (o.length : Int) - 1 < (o.length : Int) := by omega
        obtain ⟨go, co, eo, gb, gl2, cells, hblk⟩ := Kd.N_form HO9.out.row hz
        injection eo with ea en ec
        subst ea
        subst ec
        clear en
        obtain ⟨ce, hcl, hM, hcc, hfr⟩ := Kd.N_elem HO9.out.row z70 ((o.length : Int) - 1) p0 r0
        obtain ⟨D2, k2, D3, k3, rfl, hm2, hF2, hm3, hF3⟩ := k70_openF hM
        have hix : ∀ j, (((o.length : Int) - 1).toNat * k70.sz + j) = (o.length - 1) * 4 + j := fun j => by show (((o.length : Int) - 1).toNat * 4 + j) = _; omega
        have hy1 : wc.cell? ⟨go, (o.length - 1) * 4 + 1, none⟩ = some (.int .i64 (rd_T70 o ((o.length : Int) - 1)).f1) := by
          have := hcc 1 _ rfl
          rwa [hix] at this
        have hfy1 : wc.frozen? ⟨go, (o.length - 1) * 4 + 1, none⟩ = false := by
          have := hfr 1
          rwa [hix] at this
        have HSEG := Aside0.mk (Kd.N_seg HO9.out.row ((o.length : Int) - 1) p0 r0 (seg := [.int .i64 (wrap64 ((rd_T70 o ((o.length : Int) - 1)).f1 + 1))]) (j := 1) hcl hcc (by show 2 ≤ 4; omega)
          (x' := (⟨(rd_T70 o ((o.length : Int) - 1)).f0, wrap64 ((rd_T70 o ((o.length : Int) - 1)).f1 + 1), (rd_T70 o ((o.length : Int) - 1)).f2, (rd_T70 o ((o.length : Int) - 1)).f3⟩ : S70)) (k70_mkF _ _ ⟨(rd_T70 o ((o.length : Int) - 1)).f0, wrap64 ((rd_T70 o ((o.length : Int) - 1)).f1 + 1), (rd_T70 o ((o.length : Int) - 1)).f2, (rd_T70 o ((o.length : Int) - 1)).f3⟩ hm2 hF2 hm3 hF3) (fun _ hk => hk))
        have HGB := Aside0.mk gb
        have HNE := Aside0.mk (show ga ≠ go from fun e => Kd.N_ne HO9.out.row HO9.out.bk (by decide) (by rw [e]; rfl))
        clear hcl hM hcc hfr gb gl2 hblk hm2 hF2 hm3 hF3 hix HB
        go_wp2
        go_roundg gl
        case measure => omega
        case rel =>
          refine ⟨i + 1, keepO o 1 t true, [], 0, rfl, by simp [wk], HIG, ⟨DfO.clear ⟨blk_far (p := ⟨go, (o.length - 1) * 4 + 1, none⟩) HO9.out.bk HNE.out _, ?_, below_set HO9.out.bel HGB.out⟩⟩, HL⟩
          have h2 := HSEG.out.1
          simp only [World.setCells, show k70.sz = 4 from rfl, show ((o.length : Int) - 1).toNat = o.length - 1 by omega] at h2
          have h3 : (keepO o 1 t true).length = o.length := by simp [keepO]
          exact h2
      | false =>
        have e2' : wc.cell? ⟨ga, 2, none⟩ = some (.slice (some ad2) l2.length c2) := (blk_cell HO9.out.bk 2).trans rfl
        have hx2 := (HO9.out.bel.cell (World.block_lt_of_cell? w _ HX2.out)).trans HX2.out
        simp only [Int.toNat_natCast] at hx2
        have HFT := Aside0.mk (Kd.F_step (Kd.C_F k38_heap HC2.out) (fun k hk _ => HO9.out.bel.block k hk))
        clear HB
        go_wp2_with (at_builtin; refine Kd.N_append k70 (w0 := w) w.heap.size rfl (.tmp 90) (.tmp 97) 64 70 (.agg #[.int .i64 0, .int .i64 0, .slice none 0 0, .slice none 0 0]) 64 rfl Try.underlying64 info70 rfl (by decide) (by decide) _ o ⟨0, 1, t, []⟩ _ (fun _ => True) (fun k => k < w.heap.size) rfl (by simp [Act.eval]) (k70_mkF _ _ ⟨0, 1, t, []⟩ HM2.out HFT.out (Nat.le_refl 0) (Kd.F_nil _ _ _)) (fun k hk => ⟨trivial, fun e => by have := Kd.N_base HO9.out.row k e.symm; omega⟩) (fun _ _ => trivial) HO9.out.row HO9.out.bel HO9.out.bel.size (by have := HLO.out; omega) ?_; intro v1 w4 hR hB hg hat; have HW := Aside0.mk (HO9.out.app hR hB hg); clear hR hB hg hat)
        go_roundg gl
        case measure => omega
        case rel => exact ⟨i + 1, keepO o 1 t false, [], 0, rfl, by simp [wk], HIG, ⟨HW.out.clear⟩, HL⟩
end Go.Proofs.Ytdgemabmmomebaa.PDelta
end
section
namespace Go.Proofs.Ytdgemabmmomebaa.PDelta
open Go.RowKit Go.Proofs.YtdgemabmmomebaaW.PrintWords Go.Proofs.YtdgemabmmomebaaW.PrintLast Go.Proofs.YtdgemabmmomebaaW.PrintMore
set_option linter.unusedVariables false
set_option linter.unusedSimpArgs false
def nold : List Un → Nat
  | [] => 0
  | .add _ :: u => nold u
  | .keep _ :: u => nold u + 1
  | .cut :: u => nold u + 1
def nnew : List Un → Nat
  | [] => 0
  | .cut :: u => nnew u
  | .keep _ :: u => nnew u + 1
  | .add _ :: u => nnew u + 1
theorem nold_app : ∀ a b : List Un, nold (a ++ b) = nold a + nold b
  | [], b => by simp [nold]
  | .add x :: a, b => by simp only [List.cons_append, nold, nold_app a b]
  | .keep t :: a, b => by simp only [List.cons_append, nold, nold_app a b]; omega
  | .cut :: a, b => by simp only [List.cons_append, nold, nold_app a b]; omega
theorem nnew_app : ∀ a b : List Un, nnew (a ++ b) = nnew a + nnew b
  | [], b => by simp [nnew]
  | .add x :: a, b => by simp only [List.cons_append, nnew, nnew_app a b]; omega
  | .keep t :: a, b => by simp only [List.cons_append, nnew, nnew_app a b]; omega
  | .cut :: a, b => by simp only [List.cons_append, nnew, nnew_app a b]
theorem nold_keeps (t : List S38) : ∀ n, nold (List.replicate n (.keep t)) = n
  | 0 => rfl
  | n + 1 => by rw [List.replicate_succ, nold, nold_keeps t n]
theorem nnew_keeps (t : List S38) : ∀ n, nnew (List.replicate n (.keep t)) = n
  | 0 => rfl
  | n + 1 => by rw [List.replicate_succ, nnew, nnew_keeps t n]
theorem nold_cuts : ∀ n, nold (List.replicate n .cut) = n
  | 0 => rfl
  | n + 1 => by rw [List.replicate_succ, nold, nold_cuts n]
theorem nnew_cuts : ∀ n, nnew (List.replicate n .cut) = 0
  | 0 => rfl
  | n + 1 => by rw [List.replicate_succ, nnew, nnew_cuts n]
theorem nold_adds : ∀ l : List S84, nold (l.map .add) = 0
  | [] => rfl
  | x :: l => by rw [List.map_cons, nold, nold_adds l]
theorem nnew_adds : ∀ l : List S84, nnew (l.map .add) = l.length
  | [] => rfl
  | x :: l => by rw [List.map_cons, nnew, nnew_adds l, List.length_cons]
theorem nold_le : ∀ u : List Un, nold u ≤ u.length
  | [] => Nat.le_refl _
  | .add x :: u => by have := nold_le u; simp only [nold, List.length_cons]; omega
  | .keep t :: u => by have := nold_le u; simp only [nold, List.length_cons]; omega
  | .cut :: u => by have := nold_le u; simp only [nold, List.length_cons]; omega
theorem nnew_le : ∀ u : List Un, nnew u ≤ u.length
  | [] => Nat.le_refl _
  | .add x :: u => by have := nnew_le u; simp only [nnew, List.length_cons]; omega
  | .keep t :: u => by have := nnew_le u; simp only [nnew, List.length_cons]; omega
  | .cut :: u => by have := nnew_le u; simp only [nnew, List.length_cons]; omega
theorem run_cuts' : ∀ (n : Nat) (f : List S84), run f (List.replicate n .cut) = ([], f.drop n)
  | 0, f => by simp [run]
  | n + 1, [] => by rw [List.replicate_succ, run, run_cuts' n []]; simp
  | n + 1, x :: f => by rw [List.replicate_succ, run, run_cuts' n f]; simp
structure E (a b : List Un) : Prop where
  run : ∀ f, run f a = run f b
  old : nold a = nold b
  new : nnew a = nnew b
  len : a.length = b.length
theorem E.refl (a : List Un) : E a a := ⟨fun _ => rfl, rfl, rfl, rfl⟩
theorem E.symm {a b : List Un} (h : E a b) : E b a := ⟨fun f => (h.run f).symm, h.old.symm, h.new.symm, h.len.symm⟩
theorem E.trans {a b c : List Un} (h : E a b) (k : E b c) : E a c := ⟨fun f => (h.run f).trans (k.run f), h.old.trans k.old, h.new.trans k.new, h.len.trans k.len⟩
theorem E.app {a b c d : List Un} (h : E a b) (k : E c d) : E (a ++ c) (b ++ d) := ⟨fun f => by rw [run_app, run_app, h.run, k.run], by rw [nold_app, nold_app, h.old, k.old], by rw [nnew_app, nnew_app, h.new, k.new], by rw [List.length_append, List.length_append, h.len, k.len]⟩
theorem E.swap (n : Nat) (l : List S84) : E (List.replicate n .cut ++ l.map .add) (l.map .add ++ List.replicate n .cut) :=
  ⟨fun f => by rw [run_app, run_app, run_cuts', run_adds, run_adds, run_cuts']; simp, by rw [nold_app, nold_app]; omega, by rw [nnew_app, nnew_app]; omega, by rw [List.length_append, List.length_append]; omega⟩
theorem us_len {s : S70} (h : StepOK s) : 1 ≤ (us s).length ∧ s.f1.toNat ≤ (us s).length ∧ s.f3.length ≤ (us s).length := by
  rcases h with h | h | h
  · rw [us_keep h.1, List.length_replicate, h.2.2.2.1]; simp; omega
  · rw [us_add h.1, List.length_map]
    have := List.length_pos_iff.2 h.2.2.2.1
    omega
  · rw [us_cut h.1, List.length_replicate, h.2.2.2.1]; simp; omega
theorem oldS_us {s : S70} (h : StepOK s) : oldS s = (nold (us s) : Int) := by
  rcases h with h | h | h
  · rw [us_keep h.1, nold_keeps]; unfold oldS; rw [if_neg (by omega)]; omega
  · rw [us_add h.1, nold_adds]; unfold oldS; rw [if_pos h.1]; rfl
  · rw [us_cut h.1, nold_cuts]; unfold oldS; rw [if_neg (by omega)]; omega
theorem newS_us {s : S70} (h : StepOK s) : newS s = (nnew (us s) : Int) := by
  rcases h with h | h | h
  · rw [us_keep h.1, nnew_keeps]; unfold newS; rw [if_neg (by omega), if_neg (by omega)]; omega
  · rw [us_add h.1, nnew_adds]; unfold newS; rw [if_neg (by omega), if_pos h.1]
  · rw [us_cut h.1, nnew_cuts]; unfold newS; rw [if_pos h.1]; rfl
theorem old_units : ∀ {d : List S70}, (∀ s ∈ d, StepOK s) → old d = (nold (units d) : Int)
  | [], _ => rfl
  | s :: d, h => by
    rw [old, units_cons, nold_app, oldS_us (h s List.mem_cons_self), old_units (fun x hx => h x (List.mem_cons_of_mem _ hx))]
    omega
theorem new_units : ∀ {d : List S70}, (∀ s ∈ d, StepOK s) → new d = (nnew (units d) : Int)
  | [], _ => rfl
  | s :: d, h => by
    rw [new, units_cons, nnew_app, newS_us (h s List.mem_cons_self), new_units (fun x hx => h x (List.mem_cons_of_mem _ hx))]
    omega
theorem units_len : ∀ {d : List S70}, (∀ s ∈ d, StepOK s) → d.length ≤ (units d).length
  | [], _ => Nat.le_refl _
  | s :: d, h => by
    have h1 := us_len (h s List.mem_cons_self)
    have h2 := units_len (d := d) (fun x hx => h x (List.mem_cons_of_mem _ hx))
    rw [units_cons, List.length_append, List.length_cons]
    omega
theorem units_mem : ∀ {d : List S70}, (∀ s ∈ d, StepOK s) → ∀ s ∈ d, (us s).length ≤ (units d).length
  | [], _, s, hs => by cases hs
  | x :: d, h, s, hs => by
    rw [units_cons, List.length_append]
    rcases List.mem_cons.1 hs with rfl | hs
    · omega
    · have := units_mem (d := d) (fun x hx => h x (List.mem_cons_of_mem _ hx)) s hs
      omega
theorem ord_snoc (x : S70) : ∀ (l : List S70) (p : Option S70), ordOK p (l ++ [x]) ↔ ordOK p l ∧ ∀ q, (l.getLast?.or p) = some q → Adj q x
  | [], p => by simp [ordOK]
  | [y], p => by simp [ordOK]
  | y :: z :: l, p => by
    have : (z :: l).getLast?.or (some y) = (y :: z :: l).getLast?.or p := by simp [List.getLast?_cons_cons, List.getLast?_cons]
    show ((∀ q, p = some q → Adj q y) ∧ ordOK (some y) ((z :: l) ++ [x])) ↔ ((∀ q, p = some q → Adj q y) ∧ ordOK (some y) (z :: l)) ∧ _
    rw [ord_snoc x (z :: l) (some y), this, and_assoc]
def wu (s : WD) : List Un := units s.out ++ s.add.map .add ++ List.replicate s.cut.toNat .cut
def SAt (A : Nat) (s : S70) : Prop := s.f2.length ≤ A ∧ ∀ y ∈ s.f3, y.f2.length ≤ A
structure WF (A : Nat) (s : WD) : Prop where
  ok : ∀ x ∈ s.out, StepOK x
  ord : ordOK none s.out
  last : ∀ x, s.out.getLast? = some x → x.f0 = 0
  add : POK s.add
  cut : 0 ≤ s.cut
  att : ∀ x ∈ s.out, SAt A x
  atta : ∀ y ∈ s.add, y.f2.length ≤ A
theorem WF.nil (A : Nat) : WF A ⟨[], [], 0⟩ := ⟨(fun x hx => by cases hx), trivial, (fun x hx => by cases hx), (fun j h0 h1 => by simp at h1; omega), Int.le_refl _, (fun x hx => by cases hx), (fun x hx => by cases hx)⟩
structure FO (A : Nat) (o : List S70) : Prop where
  ok : ∀ x ∈ o, StepOK x
  ord : ordOK none o
  att : ∀ x ∈ o, SAt A x
theorem FO.dok {A : Nat} {o : List S70} (h : FO A o) (hl : (units o).length ≤ 2147483647) : DOK o := by
  have h1 := nold_le (units o)
  have h2 := nnew_le (units o)
  exact ⟨h.ok, h.ord, by rw [old_units h.ok]; omega, by rw [new_units h.ok]; omega⟩
theorem FO.db {A n : Nat} {o : List S70} (h : FO A o) (hl : (units o).length ≤ n) (ha : A ≤ n) : DB n o := by
  refine ⟨Nat.le_trans (units_len h.ok) hl, fun s hs => ⟨Nat.le_trans (h.att s hs).1 ha, ?_, fun y hy => Nat.le_trans ((h.att s hs).2 y hy) ha⟩⟩
  have h1 := units_mem h.ok s hs
  have h2 := us_len (h.ok s hs)
  omega
theorem wu_len (s : WD) : (wu s).length = (units s.out).length + s.add.length + s.cut.toNat := by simp [wu]; omega
theorem flush_spec {A : Nat} {s : WD} (h : WF A s) (hl : (wu s).length ≤ 2147483647) : FO A (flushD s.out s.add s.cut) ∧ units (flushD s.out s.add s.cut) = wu s ∧ (s.add = [] → s.cut = 0 → flushD s.out s.add s.cut = s.out) ∧
    (flushD s.out s.add s.cut).length ≤ s.out.length + 2 := by
  rw [wu_len] at hl
  have hcut := h.cut
  have h1 : FO A (addD s.out s.add) ∧ units (addD s.out s.add) = units s.out ++ s.add.map .add ∧ (∀ q, (addD s.out s.add).getLast? = some q → q.f0 ≠ 2) := by
    by_cases ha : 0 < s.add.length
    · have e : addD s.out s.add = s.out ++ [⟨1, 0, [], s.add⟩] := if_pos ha
      have hne : s.add ≠ [] := fun h => by rw [h] at ha; cases ha
      rw [e]
      refine ⟨⟨fun x hx => ?_, (ord_snoc _ _ _).2 ⟨h.ord, fun q hq => ?_⟩, fun x hx => ?_⟩, ?_, fun q hq => ?_⟩
      · rcases List.mem_append.1 hx with hx | hx
        · exact h.ok x hx
        · rw [List.mem_singleton.1 hx]; exact .inr (.inl ⟨rfl, rfl, rfl, hne, h.add⟩)
      · rw [Option.or_none] at hq
        have := h.last q hq
        exact ⟨fun h => by have := h.1; simp only at this; omega, fun h => by omega⟩
      · rcases List.mem_append.1 hx with hx | hx
        · exact h.att x hx
        · rw [List.mem_singleton.1 hx]; exact ⟨Nat.zero_le _, h.atta⟩
      · rw [units_app, units_cons, units_nil, List.append_nil]; rfl
      · rw [List.getLast?_append] at hq
        simp at hq
        rw [← hq]
        show (1 : Int) ≠ 2
        decide
    · have e : addD s.out s.add = s.out := if_neg ha
      have hne : s.add = [] := List.eq_nil_of_length_eq_zero (by omega)
      rw [e]
      exact ⟨⟨h.ok, h.ord, h.att⟩, by rw [hne]; simp, fun q hq => by have := h.last q hq; omega⟩
  have hlen1 : (addD s.out s.add).length ≤ s.out.length + 1 := by unfold addD; split <;> simp
  refine ⟨?_, ?_, ?_, ?_⟩
  · unfold flushD cutD
    split
    · refine ⟨fun x hx => ?_, (ord_snoc _ _ _).2 ⟨h1.1.ord, fun q hq => ?_⟩, fun x hx => ?_⟩
      · rcases List.mem_append.1 hx with hx | hx
        · exact h1.1.ok x hx
        · rw [List.mem_singleton.1 hx]; exact .inr (.inr ⟨rfl, by show 1 ≤ s.cut; omega, by show s.cut ≤ 2147483647; omega, rfl, rfl⟩)
      · rw [Option.or_none] at hq
        have := h1.2.2 q hq
        exact ⟨fun h => by have := h.1; simp only at this; omega, fun h => by have := h.2; simp only at this; omega⟩
      · rcases List.mem_append.1 hx with hx | hx
        · exact h1.1.att x hx
        · rw [List.mem_singleton.1 hx]; exact ⟨Nat.zero_le _, fun y hy => by cases hy⟩
    · exact h1.1
  · unfold flushD cutD wu
    split
    · rw [units_app, h1.2.1, units_cons, units_nil, List.append_nil]; rfl
    · rw [h1.2.1, show s.cut.toNat = 0 by omega]; simp
  · intro ha hc
    unfold flushD cutD addD
    rw [ha, hc]
    rfl
  · unfold flushD cutD
    split
    · rw [List.length_append, List.length_singleton]; omega
    · omega
theorem keepO_false (o : List S70) (n : Int) (t : List S38) : keepO o n t false = o ++ [⟨0, n, t, []⟩] := rfl
theorem last_split {o : List S70} (h : 0 < o.length) : ∃ o' x, o = o' ++ [x] ∧ rd_T70 o ((o.length : Int) - 1) = x := by
  refine ⟨o.dropLast, o.getLast (fun h' => by rw [h'] at h; cases h), (List.dropLast_concat_getLast _).symm, ?_⟩
  rw [show (o.length : Int) - 1 = ((o.length - 1 : Nat) : Int) by omega]
  simp only [rd_T70, Int.toNat_natCast, List.getD_eq_getElem?_getD, List.getElem?_eq_getElem (show o.length - 1 < o.length by omega), Option.getD_some, List.getLast_eq_getElem]
def Joins (o : List S70) (t : List S38) : Prop := ∃ o' x, o = o' ++ [x] ∧ rd_T70 o ((o.length : Int) - 1) = x ∧ x.f0 = 0 ∧ x.f2 = t
theorem keep_core {A : Nat} {s : WD} (n : Int) (t : List S38) (h : WF A s) (hv : VA true t) (ht : t.length ≤ A) (hA : A ≤ 1073741824) (h0 : 1 ≤ n) (hl : ((wu s).length : Int) + n ≤ 1073741824)
    (b : Bool) (hbi : b = true ↔ Joins (flushD s.out s.add s.cut) t) : WF A ⟨keepO (flushD s.out s.add s.cut) n t b, [], 0⟩ ∧ wu ⟨keepO (flushD s.out s.add s.cut) n t b, [], 0⟩ = wu s ++ List.replicate n.toNat (.keep t) := by
  obtain ⟨f1, f2, f3, f4⟩ := flush_spec h (by omega)
  have hol := units_len h.ok
  have hwl := wu_len s
  obtain ⟨o, ho⟩ : ∃ o, o = flushD s.out s.add s.cut := ⟨_, rfl⟩
  rw [← ho] at f1 f2 f3 f4 hbi ⊢
  have pnil : POK [] := fun j h0 h1 => by simp at h1; omega
  cases b with
  | true =>
    obtain ⟨o', x, e, ex, hk, hx⟩ := hbi.1 rfl
    have hxok := f1.ok x (by rw [e]; simp)
    have hxat := f1.att x (by rw [e]; simp)
    have hx' : 1 ≤ x.f1 ∧ x.f3 = [] := by rcases hxok with h | h | h <;> first | exact ⟨h.2.1, h.2.2.2.1⟩ | omega
    have hxl : x.f1.toNat ≤ (wu s).length := by
      have h1 := units_mem f1.ok x (by rw [e]; simp)
      have h2 := us_len hxok
      rw [f2] at h1
      omega
    have e2 : keepO o n t true = o' ++ [⟨0, x.f1 + n, t, []⟩] := by
      rw [keepO, ex, e, w64 (by omega) (by omega), hk, hx, hx'.2]
      rw [List.length_append, List.length_singleton, show o'.length + 1 - 1 = o'.length by omega, List.set_append_right _ _ (Nat.le_refl _)]
      simp
    have hord := f1.ord
    rw [e, ord_snoc] at hord
    have hst : StepOK ⟨0, x.f1 + n, t, []⟩ := .inl ⟨rfl, by show 1 ≤ x.f1 + n; omega, by show x.f1 + n ≤ 2147483647; omega, rfl, hv⟩
    refine ⟨⟨fun y hy => ?_, ?_, fun y hy => ?_, pnil, Int.le_refl _, fun y hy => ?_, fun y hy => by cases hy⟩, ?_⟩
    · simp only [e2] at hy
      rcases List.mem_append.1 hy with hy | hy
      · exact f1.ok y (by rw [e]; exact List.mem_append_left _ hy)
      · rw [List.mem_singleton.1 hy]; exact hst
    · simp only [e2]
      refine (ord_snoc _ _ _).2 ⟨hord.1, fun q hq => ?_⟩
      have := hord.2 q hq
      exact ⟨fun h => this.1 ⟨by have := h.1; simp only at this; omega, by rcases h.2 with h | h; exact absurd rfl h; exact .inr (by rw [hx]; exact h)⟩, fun h => by have := h.2; simp only at this; omega⟩
    · simp only [e2] at hy
      rw [List.getLast?_append] at hy
      simp at hy
      rw [← hy]
    · simp only [e2] at hy
      rcases List.mem_append.1 hy with hy | hy
      · exact f1.att y (by rw [e]; exact List.mem_append_left _ hy)
      · rw [List.mem_singleton.1 hy]; exact ⟨ht, fun z hz => by cases hz⟩
    · rw [← f2, wu, e2, e, units_app, units_app, units_cons, units_cons, units_nil, us_keep hk, us_keep (s := ⟨0, x.f1 + n, t, []⟩) rfl, hx]
      simp only [List.map_nil, List.append_nil, Int.toNat_zero, List.replicate_zero, List.append_assoc]
      rw [List.replicate_append_replicate, show (x.f1 + n).toNat = x.f1.toNat + n.toNat by omega]
  | false =>
    have hst : StepOK ⟨0, n, t, []⟩ := .inl ⟨rfl, h0, by show n ≤ 2147483647; omega, rfl, hv⟩
    refine ⟨⟨fun y hy => ?_, ?_, fun y hy => ?_, pnil, Int.le_refl _, fun y hy => ?_, fun y hy => by cases hy⟩, ?_⟩
    · simp only [keepO_false] at hy
      rcases List.mem_append.1 hy with hy | hy
      · exact f1.ok y hy
      · rw [List.mem_singleton.1 hy]; exact hst
    · simp only [keepO_false]
      refine (ord_snoc _ _ _).2 ⟨f1.ord, fun q hq => ?_⟩
      rw [Option.or_none] at hq
      refine ⟨fun h => ?_, fun h => by have := h.2; simp only at this; omega⟩
      have hz : 0 < o.length := by
        cases o with
        | nil => cases hq
        | cons a l => simp
      obtain ⟨o', x, e, ex⟩ := last_split hz
      have : x = q := by rw [e, List.getLast?_append] at hq; simpa using hq
      subst this
      rcases h.2 with h' | h'
      · exact h' rfl
      · have := hbi.2 ⟨o', x, e, ex, h.1, h'⟩
        cases this
    · simp only [keepO_false] at hy
      rw [List.getLast?_append] at hy
      simp at hy
      rw [← hy]
    · simp only [keepO_false] at hy
      rcases List.mem_append.1 hy with hy | hy
      · exact f1.att y hy
      · rw [List.mem_singleton.1 hy]; exact ⟨ht, fun z hz => by cases hz⟩
    · rw [← f2, wu, keepO_false, units_app, units_cons, units_nil, us_keep (s := ⟨0, n, t, []⟩) rfl]
      simp
theorem keep_spec {A : Nat} {s : WD} (n : Int) (t : List S38) (h : WF A s) (hv : VA true t) (ht : t.length ≤ A) (hA : A ≤ 1073741824) (h0 : 1 ≤ n) (hl : ((wu s).length : Int) + n ≤ 1073741824) :
    ∃ s', Ev (fun k => keepF k s n t) s' ∧ WF A s' ∧ wu s' = wu s ++ List.replicate n.toNat (.keep t) := by
  obtain ⟨f1, f2, f3, f4⟩ := flush_spec h (by omega)
  have hol := units_len h.ok
  have hwl := wu_len s
  have core := keep_core n t h hv ht hA h0 hl
  obtain ⟨o, ho⟩ : ∃ o, o = flushD s.out s.add s.cut := ⟨_, rfl⟩
  rw [← ho] at f1 f2 f3 f4 core
  obtain ⟨b, hb, hbi⟩ : ∃ b, Ev (fun k => keepB k o t) b ∧ (b = true ↔ Joins o t) := by
    by_cases hz : 0 < o.length
    · obtain ⟨o', x, e, ex⟩ := last_split hz
      by_cases hk : x.f0 = 0
      · obtain ⟨b, hb, hbi⟩ := asame_ev x.f2 t (by have := (f1.att x (by rw [e]; simp)).1; omega)
        refine ⟨b, Ev.congr (fun k => by unfold keepB; rw [if_pos hz, ex, if_pos hk]) hb, hbi.trans ⟨fun h => ⟨o', x, e, ex, hk, h⟩, fun ⟨o2, x2, e2, ex2, _, h⟩ => by rw [← ex, ex2]; exact h⟩⟩
      · exact ⟨false, Ev.congr (fun k => by unfold keepB; rw [if_pos hz, ex, if_neg hk]) (Ev.now false), ⟨(fun h => by cases h), fun ⟨o2, x2, e2, ex2, h, _⟩ => absurd (by rw [← ex, ex2]; exact h) hk⟩⟩
    · exact ⟨false, Ev.congr (fun k => by unfold keepB; rw [if_neg hz]) (Ev.now false), ⟨(fun h => by cases h), fun ⟨o2, x2, e2, _⟩ => absurd (by rw [e2]; simp) hz⟩⟩
  exact ⟨⟨keepO o n t b, [], 0⟩, Ev.congr (fun k => by unfold keepF; rw [if_neg (by omega), if_neg (by omega), ← ho]) (Ev.bind hb (Ev.now _)), core b hbi⟩
theorem dofB_ev {A : Nat} {o : List S70} (t : List S38) (h : FO A o) (hA : A ≤ 1073741824) : ∃ b, Ev (fun k => dofB k o t) b ∧ (b = true ↔ Joins o t) := by
  by_cases hz : 0 < o.length
  · obtain ⟨o', x, e, ex⟩ := last_split hz
    by_cases hk : x.f0 = 0
    · obtain ⟨b, hb, hbi⟩ := rsame_ev x.f2 t (by have := (h.att x (by rw [e]; simp)).1; omega)
      refine ⟨b, Ev.congr (fun k => by unfold dofB; rw [if_pos hz, ex, if_pos hk]) hb, hbi.trans ⟨fun h => ⟨o', x, e, ex, hk, h⟩, fun ⟨o2, x2, e2, ex2, _, h⟩ => by rw [← ex, ex2]; exact h⟩⟩
    · exact ⟨false, Ev.congr (fun k => by unfold dofB; rw [if_pos hz, ex, if_neg hk]) (Ev.now false), ⟨(fun h => by cases h), fun ⟨o2, x2, e2, ex2, h, _⟩ => absurd (by rw [← ex, ex2]; exact h) hk⟩⟩
  · exact ⟨false, Ev.congr (fun k => by unfold dofB; rw [if_neg hz]) (Ev.now false), ⟨(fun h => by cases h), fun ⟨o2, x2, e2, _⟩ => absurd (by rw [e2]; simp) hz⟩⟩
theorem pok_app {a b : List S84} (ha : POK a) (hb : POK b) : POK (a ++ b) := pok_mem.2 (fun x hx => by rcases List.mem_append.1 hx with hx | hx; exact pok_mem.1 ha x hx; exact pok_mem.1 hb x hx)
theorem elems_spec {A : Nat} {s : WD} (l : List S84) (h : WF A s) (hp : POK l) (hat : ∀ y ∈ l, y.f2.length ≤ A) (hA : A ≤ 1073741824) (hl : (wu s).length + l.length ≤ 1073741824) :
    ∃ s', Ev (fun k => elemsF k s l) s' ∧ WF A s' ∧ E (wu s') (wu s ++ l.map .add) := by
  have hwl := wu_len s
  have hfs : FSmall l := fsmall (n := 1073741824) hp ⟨by omega, fun x hx => Nat.le_trans (hat x hx) hA⟩ (Nat.le_refl _)
  refine ⟨⟨s.out, s.add ++ l, s.cut⟩, Ev.bind (copy_ev l hfs) (Ev.congr (fun k => by rw [if_neg (by omega)]) (Ev.now _)), ⟨h.ok, h.ord, h.last, pok_app h.add hp, h.cut, h.att, fun y hy => ?_⟩, ?_⟩
  · rcases List.mem_append.1 hy with hy | hy
    · exact h.atta y hy
    · exact hat y hy
  · have := (E.refl (units s.out ++ s.add.map .add)).app (E.swap s.cut.toNat l).symm
    simpa [wu, List.append_assoc] using this
theorem cut_spec {A : Nat} {s : WD} (n : Int) (h : WF A s) (h0 : 0 ≤ n) : WF A ⟨s.out, s.add, s.cut + n⟩ ∧ wu ⟨s.out, s.add, s.cut + n⟩ = wu s ++ List.replicate n.toNat .cut := by
  have := h.cut
  refine ⟨⟨h.ok, h.ord, h.last, h.add, by show 0 ≤ s.cut + n; omega, h.att, h.atta⟩, ?_⟩
  simp only [wu, List.append_assoc, List.replicate_append_replicate]
  rw [show (s.cut + n).toNat = s.cut.toNat + n.toNat by omega]
theorem done_spec {A : Nat} {s : WD} (h : WF A s) (hA : A ≤ 1073741824) (hl : (wu s).length ≤ 1073741824) : ∃ o, Ev (fun k => doneD k s) (o, 0) ∧ FO A o ∧ units o = wu s := by
  obtain ⟨f1, f2, f3, f4⟩ := flush_spec h (by omega)
  have hol := units_len h.ok
  have hwl := wu_len s
  have hd := f1.dok (by rw [f2]; omega)
  obtain ⟨r, hr, hri⟩ := check_ev _ (dsm f1.ok (f1.db (n := 1073741824) (by rw [f2]; omega) hA) (Nat.le_refl _))
  obtain rfl := hri.2 hd
  exact ⟨_, Ev.congr (fun k => by unfold doneD; rw [if_neg (by omega)]) (Ev.bind hr (Ev.congr (fun k => by rw [if_neg (by decide)]) (Ev.now _))), f1, f2⟩
end Go.Proofs.Ytdgemabmmomebaa.PDelta
end
section
namespace Go.Proofs.Ytdgemabmmomebaa.PDelta
open Go.RowKit Go.Proofs.YtdgemabmmomebaaW.PrintWords Go.Proofs.YtdgemabmmomebaaW.PrintLast Go.Proofs.YtdgemabmmomebaaW.PrintMore
set_option linter.unusedVariables false
set_option linter.unusedSimpArgs false
structure DiceSt (w0 : World) (g : Nat) (raw : List Int) (u : Nat) (w : World) : Prop where
  ex : ∃ (A : Option Addr) (c : Nat), w.heap[g]? = some (.cells #[.slice A raw.length c, .int .i64 (u : Int)] 100 (0, 0)) ∧ Kd.C (Kd.int .i64) w0 A raw.length raw ∧ raw.length ≤ c
theorem wrap_mid {i : Int} (h0 : 0 ≤ i) (h : i ≤ 4611686018427387904) : wrap64 i = i := by unfold wrap64; omega
theorem wrap_k {i : Int} (h0 : 0 ≤ i) (h : i ≤ 4611686018427387904) : IntKind.i64.wrap i = i := by rw [i64_w]; exact wrap_mid h0 h
theorem add_block (a : Addr) (n : Nat) : (a.add n).block = a.block := by unfold Go.Addr.add; split <;> rfl
def rollF (raw : List Int) (u : Nat) (n : Int) : Option Int :=
  if raw.length = 0 then some 0 else chanceryref1_Within.f (wrap64 (rd raw ((u % raw.length : Nat) : Int) + (((u + 1) / raw.length : Nat) : Int))) 0 (wrap64 (n - 1))
def rollU (raw : List Int) (u : Nat) : Nat := if raw.length = 0 then u else u + 1
set_option maxRecDepth 100000 in
set_option maxHeartbeats 4000000 in
theorem roll_calls (w0 : World) (g : Nat) (raw : List Int) (u : Nat) (n r : Int) (w : World) (h0 : w0.heap.size ≤ g) (h : DiceSt w0 g raw u w) (hB : Below w0.heap.size w0 w) (hu : u < 4611686018427387904) (hf : rollF raw u n = some r) :
    Calls Try.prog 70 #[.pointer (some ⟨g, 0, none⟩), .int .i64 n] w fun e w' => e = .returned (.int .i64 r) ∧ DiceSt w0 g raw (rollU raw u) w' ∧ (w.heap.size ≤ w'.heap.size ∧ ∀ k, k < w.heap.size → k ≠ g → w'.heap[k]? = w.heap[k]?) ∧ Below w0.heap.size w0 w' := by
  have hu100 := Try.underlying100
  obtain ⟨A, c, hb, hC, hc⟩ := h.ex
  have hc0 : w.cell? ⟨g, 0, none⟩ = some (.slice A raw.length c) := (blk_cell hb 0).trans rfl
  have hc1 : w.cell? ⟨g, 1, none⟩ = some (.int .i64 (u : Int)) := (blk_cell hb 1).trans rfl
  have hf1 := blk_frozen hb 1
  have HB := Aside0.mk hB
  have HC := Aside0.mk hC
  have HBL := Aside0.mk hb
  have HCC := Aside0.mk hc
  have H0 := Aside0.mk h0
  have HS := Aside0.mk h
  clear h hb hC hB hc h0
  by_cases c1 : raw.length = 0
  · have e' : rollU raw u = u := if_pos c1
    rw [rollF, if_pos c1] at hf
    injection hf with hf
    subst hf
    have c1b : ((raw.length : Int) == 0) = true := beq_iff_eq.mpr (by omega)
    have c1c : (raw.length == 0) = true := beq_iff_eq.mpr c1
    rw [e']
    clear e' c1
    go_enter Try.func70, Try.ntmps70
    go_wp2
    first | go_ret | go_ret2
    exact ⟨rfl, HS.out, ⟨Nat.le_refl _, fun _ _ _ => rfl⟩, HB.out⟩
  · have e' : rollU raw u = u + 1 := if_neg c1
    rw [rollF, if_neg c1] at hf
    have c1b : ((raw.length : Int) == 0) = false := beq_eq_false_iff_ne.mpr (by omega)
    have c1c : (raw.length == 0) = false := beq_eq_false_iff_ne.mpr c1
    rw [e']
    have hlen : 0 < raw.length := by omega
    have hm' : u % raw.length < raw.length := Nat.mod_lt _ hlen
    have hmu : u % raw.length ≤ u := Nat.mod_le _ _
    have hqu : (u + 1) / raw.length ≤ u + 1 := Nat.div_le_self _ _
    have t1 : Int.tmod (u : Int) (raw.length : Int) = ((u % raw.length : Nat) : Int) := rfl
    have t2 : Int.tdiv ((u : Int) + 1) (raw.length : Int) = (((u + 1) / raw.length : Nat) : Int) := rfl
    obtain ⟨m, hm⟩ : ∃ m, m = u % raw.length := ⟨_, rfl⟩
    obtain ⟨q, hq⟩ : ∃ q, q = (u + 1) / raw.length := ⟨_, rfl⟩
    rw [← hm] at t1 hf hm' hmu
    rw [← hq] at t2 hf hqu
    clear hm hq
    obtain ⟨ad0, e0, hx0⟩ := Kd.at_int HC.out (m : Int) (by omega) (by omega)
    cases e0
    have HGN : Aside0 (g ≠ ad0.block) := ⟨fun e => by have := World.block_lt_of_cell? w0 _ hx0; have := H0.out; rw [add_block] at *; omega⟩
    replace hx0 := (HB.out.cell (World.block_lt_of_cell? w0 _ hx0)).trans hx0
    replace hx0 := (World.cell?_setCell_far w ⟨g, 1, none⟩ (ad0.add ((m : Int)).toNat) (.int .i64 ((u : Int) + 1)) (by rw [add_block]; exact HGN.out)).trans hx0
    simp only [Int.toNat_natCast] at hx0
    have w1 : wrap64 ((u : Int) + 1) = (u : Int) + 1 := wrap_mid (by omega) (by omega)
    have w2 : wrap64 (((u : Int) + 1) - 1) = (u : Int) := by rw [Int.add_sub_cancel]; exact wrap_mid (by omega) (by omega)
    have w3 : IntKind.i64.wrap (u : Int) = (u : Int) := wrap_k (by omega) (by omega)
    have w5 : IntKind.i64.wrap (m : Int) = (m : Int) := wrap_k (by omega) (by omega)
    have w6 : IntKind.i64.wrap (q : Int) = (q : Int) := wrap_k (by omega) (by omega)
    have HF := Aside0.mk hf
    have q0 : (m : Int) < (raw.length : Int) := by omega
    have q1 : m < raw.length := by omega
    have c1d : ¬ ((raw.length : Int) = 0) := by omega
    clear e' hf hu hmu hqu
    go_enter Try.func70, Try.ntmps70
    go_wp2
    refine wp_region_still_tail 30 (by kernel_rfl) (by kernel_rfl) ?_
    simp only [List.take_succ_cons, List.take_zero, List.drop_succ_cons, List.drop_zero]
    change wpStill _ _ (World.drew _) (fun a' => wpList _ _ _ _ a' (World.drew _)) _ _
    repeat still_step
    refine wpStill_nil ?_
    go_wp2_with (go_at_call 32; (with_reducible refine (chanceryref1_Within.calls _ _ _ r _ HF.out).mono ?_); rintro e1 w5 ⟨rfl, hd⟩; have HDR := Aside0.mk hd; clear hd)
    first | go_ret | go_ret2
    have hs : w.heap.size = (w.setCell ⟨g, 1, none⟩ (.int .i64 ((u : Int) + 1))).heap.size := by simp [World.setCell]
    have hbb := Below.refl (w.setCell ⟨g, 1, none⟩ (.int .i64 ((u : Int) + 1))).heap.size (w.setCell ⟨g, 1, none⟩ (.int .i64 ((u : Int) + 1)))
    have hbd := below_step (below_drew1 hbb) HDR.out.below
    refine ⟨rfl, ⟨_, _, (hbd.block g (by rw [← hs]; exact blk_lt HBL.out)).trans (blk_put HBL.out 1 _ rfl), HC.out, HCC.out⟩, ⟨by rw [hs]; exact hbd.size, fun k hk hg => ?_⟩, below_step (below_set HB.out H0.out) hbd⟩
    rw [hbd.block k (by rw [← hs]; exact hk), Below.heap_setCell _ _ _ _ hg]
end Go.Proofs.Ytdgemabmmomebaa.PDelta
end
section
namespace Go.Proofs.Ytdgemabmmomebaa.PDelta
open Go.RowKit Go.Proofs.YtdgemabmmomebaaW.PrintWords Go.Proofs.YtdgemabmmomebaaW.PrintLast Go.Proofs.YtdgemabmmomebaaW.PrintMore
set_option linter.unusedVariables false
set_option linter.unusedSimpArgs false
def sOn : ByteArray := ⟨#[111, 110]⟩
def sBold : ByteArray := ⟨#[98, 111, 108, 100]⟩
def sNil : ByteArray := ⟨#[]⟩
def onL (name : ByteArray) : List S38 := [⟨name, sOn⟩]
def addsL (i : Nat) (name : ByteArray) : Nat → List S84
  | 0 => []
  | j + 1 => addsL i name j ++ [⟨65 + ((i + j) % 26 : Nat), 0, onL name⟩]
def attrsL (y : Int) (name : ByteArray) : List S38 := if y = 1 then onL sBold else if y = 2 then [⟨sBold, sNil⟩] else if y = 3 then [⟨sBold, name⟩, ⟨name, sOn⟩] else []
def chL (raw : List Int) (name : ByteArray) : Nat → Nat → Nat → List (List S84) → List Bool → List (List S38) → Option (List (List S84) × List Bool × List (List S38))
  | 0, i, u, As, Cs, Ts => (rollF raw u 8).bind fun x => some (As ++ [addsL i name (x - 5).toNat], Cs, Ts)
  | m + 1, i, u, As, Cs, Ts => (rollF raw u 8).bind fun x => (rollF raw (rollU raw u) 8).bind fun y => (rollF raw (rollU raw (rollU raw u)) 8).bind fun z =>
    chL raw name m (i + 1) (rollU raw (rollU raw (rollU raw u))) (As ++ [addsL i name (x - 5).toNat]) (Cs ++ [z == 0]) (Ts ++ [attrsL y name])
def changeF (k : Nat) (n : Int) (raw : List Int) (name : ByteArray) : Option (List S70) :=
  if 0 ≤ n ∧ n ≤ 1048576 then (chL raw name n.toNat 0 0 [] [] []).bind fun t => dofL k t.1 t.2.1 t.2.2 [] [] 0 else none
structure ChS (w : World) (ga gd : Nat) (raw : List Int) (n : Nat) (As : List (List S84)) (Cs : List Bool) (Ts : List (List S38)) (cA cB cC vA vB vC u : Value) (wr : World) : Prop where
  lga : w.heap.size ≤ ga
  lgd : w.heap.size ≤ gd
  bk : wr.heap[ga]? = some (.cells #[cA, cB, cC] 123 (0, 0))
  rA : Kd.R (Kd.slice 84 k84) 63 wr w.heap.size (fun k => True ∧ some k ≠ u.ownBlock) vA As
  rB : Kd.R Kd.bool 4 wr w.heap.size (fun _ => True) vB Cs
  rC : Kd.R (Kd.slice 38 k38) 32 wr w.heap.size (fun _ => True) vC Ts
  dice : DiceSt w gd raw n wr
  bel : Below w.heap.size w wr
section
variable {w wr w1 : World} {ga gd n : Nat} {raw : List Int} {As As' : List (List S84)} {Cs Cs' : List Bool} {Ts Ts' : List (List S38)} {cA cB cC vA vB vC u u1 v1 lv : Value} {al al' : List S84} {l : List S38}
theorem DiceSt.block (h : DiceSt w gd raw n wr) (hb : w1.heap[gd]? = wr.heap[gd]?) : DiceSt w gd raw n w1 := by
  obtain ⟨A, c, hk, hC, hc⟩ := h.ex
  exact ⟨A, c, hb.trans hk, hC, hc⟩
theorem DiceSt.typed (h : DiceSt w gd raw n wr) : ∃ cs, wr.heap[gd]? = some (.cells cs 100 (0, 0)) := by
  obtain ⟨A, c, hk, hC, hc⟩ := h.ex
  exact ⟨_, hk⟩
theorem ChS.below (h : ChS w ga gd raw n As Cs Ts cA cB cC vA vB vC u wr) (hb : Below wr.heap.size wr w1) : ChS w ga gd raw n As Cs Ts cA cB cC vA vB vC u w1 := by
  obtain ⟨cs, hd⟩ := h.dice.typed
  exact ⟨h.lga, h.lgd, (hb.block _ (blk_lt h.bk)).trans h.bk, Kd.R_below h.rA hb, Kd.R_below h.rB hb, Kd.R_below h.rC hb, h.dice.block (hb.block _ (blk_lt hd)), below_step h.bel hb⟩
theorem ChS.drew (h : ChS w ga gd raw n As Cs Ts cA cB cC vA vB vC u wr) : ChS w ga gd raw n As Cs Ts cA cB cC vA vB vC u wr.drew := h.below (below_drew1 (Below.refl _ _))
theorem r_keep {α : Type} {d : Kd α} {e t : Nat} {base : Nat} {ok : Nat → Prop} {v : Value} {xs : List α} {cs : Array Value} {g : Nat} (h : d.R e wr base ok v xs) (hg : wr.heap[g]? = some (.cells cs t (0, 0))) (ht : ∀ q, q ∈ e :: d.E → q ≠ t) (hfr : ∀ k, k < wr.heap.size → k ≠ g → w1.heap[k]? = wr.heap[k]?) : d.R e w1 base ok v xs :=
  Kd.R_mono (Kd.R_step (Kd.R_types h hg ht) (fun k hk hlt => hfr k hlt hk.2)) (fun _ hk => hk.1)
theorem r_other {α β : Type} {d : Kd α} {d' : Kd β} {e e' : Nat} {base base' : Nat} {ok ok' : Nat → Prop} {v v' : Value} {xs : List α} {ys : List β} (h : d.R e wr base ok v xs) (h' : d'.R e' wr base' ok' v' ys) (ht : ∀ q, q ∈ e :: d.E → q ≠ e') (hg : wr.grownBy w1 v'.ownBlock) : d.R e w1 base ok v xs :=
  Kd.R_mono (Kd.R_grown (Kd.R_apartR h h' ht) hg (fun _ hk => hk.2)) (fun _ hk => hk.1)
theorem ChS.rolled (h : ChS w ga gd raw n As Cs Ts cA cB cC vA vB vC u wr) (hd : DiceSt w gd raw (rollU raw n) w1) (hfr : ∀ k, k < wr.heap.size → k ≠ gd → w1.heap[k]? = wr.heap[k]?) (hb : Below w.heap.size w w1) : ChS w ga gd raw (rollU raw n) As Cs Ts cA cB cC vA vB vC u w1 := by
  obtain ⟨cs, hgd⟩ := h.dice.typed
  have hne : ga ≠ gd := fun e => by have := h.bk; rw [e, hgd] at this; injection this with this; injection this with _ this; exact absurd this (by decide)
  exact ⟨h.lga, h.lgd, (hfr _ (blk_lt h.bk) hne).trans h.bk, r_keep h.rA hgd (by decide) hfr, r_keep h.rB hgd (by decide) hfr, r_keep h.rC hgd (by decide) hfr, hd, hb⟩
theorem ChS.roll_calls (h : ChS w ga gd raw n As Cs Ts cA cB cC vA vB vC u wr) (hu : n < 4611686018427387904) {x : Int} (hf : rollF raw n 8 = some x) :
    Calls Try.prog 70 #[.pointer (some ⟨gd, 0, none⟩), .int .i64 8] wr fun e w' => e = .returned (.int .i64 x) ∧ (ChS w ga gd raw (rollU raw n) As Cs Ts cA cB cC vA vB vC u w' ∧ (∀ k, k < wr.heap.size → k ≠ gd → w'.heap[k]? = wr.heap[k]?) ∧ wr.heap.size ≤ w'.heap.size) := by
  refine (PDelta.roll_calls w gd raw n 8 x wr h.lgd h.dice h.bel hu hf).mono ?_
  rintro e w' ⟨rfl, hd, ⟨hs, hfr⟩, hb⟩
  exact ⟨rfl, h.rolled hd hfr hb, hfr, hs⟩
theorem ChS.appU (h : ChS w ga gd raw n As Cs Ts cA cB cC vA vB vC u wr) (hu : Kd.R k84 84 wr w.heap.size (fun _ => True) u al) (hg : wr.grownBy w1 u.ownBlock) (hat : u1.ownBlock = u.ownBlock ∨ ∃ b, u1.ownBlock = some b ∧ wr.heap.size ≤ b) (hb : Below w.heap.size w w1) :
    ChS w ga gd raw n As Cs Ts cA cB cC vA vB vC u1 w1 := by
  obtain ⟨cs, hgd⟩ := h.dice.typed
  exact ⟨h.lga, h.lgd, blk_grown h.bk hg (Kd.R_ne hu h.bk (by decide)), Kd.R_after h.rA hg hat, r_other h.rB hu (by decide) hg, r_other h.rC hu (by decide) hg, h.dice.block (hg.block _ (blk_lt hgd) (Kd.R_ne hu hgd (by decide))), hb⟩
theorem ChS.appA (h : ChS w ga gd raw n As Cs Ts cA cB cC vA vB vC u wr) (hR : Kd.R (Kd.slice 84 k84) 63 w1 w.heap.size (fun _ => True) v1 As') (hg : wr.grownBy w1 vA.ownBlock) (hb : Below w.heap.size w w1) :
    ChS w ga gd raw n As' Cs Ts cA cB cC v1 vB vC (.slice none 0 0) w1 := by
  obtain ⟨cs, hgd⟩ := h.dice.typed
  exact ⟨h.lga, h.lgd, blk_grown h.bk hg (Kd.R_ne h.rA h.bk (by decide)), Kd.R_mono hR (fun _ _ => ⟨trivial, by simp [Value.ownBlock]⟩), r_other h.rB h.rA (by decide) hg, r_other h.rC h.rA (by decide) hg, h.dice.block (hg.block _ (blk_lt hgd) (Kd.R_ne h.rA hgd (by decide))), hb⟩
theorem ChS.appB (h : ChS w ga gd raw n As Cs Ts cA cB cC vA vB vC u wr) (hR : Kd.R Kd.bool 4 w1 w.heap.size (fun _ => True) v1 Cs') (hg : wr.grownBy w1 vB.ownBlock) (hb : Below w.heap.size w w1) :
    ChS w ga gd raw n As Cs' Ts cA cB cC vA v1 vC u w1 := by
  obtain ⟨cs, hgd⟩ := h.dice.typed
  exact ⟨h.lga, h.lgd, blk_grown h.bk hg (Kd.R_ne h.rB h.bk (by decide)), r_other h.rA h.rB (by decide) hg, hR, r_other h.rC h.rB (by decide) hg, h.dice.block (hg.block _ (blk_lt hgd) (Kd.R_ne h.rB hgd (by decide))), hb⟩
theorem ChS.appC (h : ChS w ga gd raw n As Cs Ts cA cB cC vA vB vC u wr) (hR : Kd.R (Kd.slice 38 k38) 32 w1 w.heap.size (fun _ => True) v1 Ts') (hg : wr.grownBy w1 vC.ownBlock) (hb : Below w.heap.size w w1) :
    ChS w ga gd raw n As Cs Ts' cA cB cC vA vB v1 u w1 := by
  obtain ⟨cs, hgd⟩ := h.dice.typed
  exact ⟨h.lga, h.lgd, blk_grown h.bk hg (Kd.R_ne h.rC h.bk (by decide)), r_other h.rA h.rC (by decide) hg, r_other h.rB h.rC (by decide) hg, hR, h.dice.block (hg.block _ (blk_lt hgd) (Kd.R_ne h.rC hgd (by decide))), hb⟩
theorem ChS.set (h : ChS w ga gd raw n As Cs Ts cA cB cC vA vB vC u wr) (j : Nat) (x a b c : Value) (e : (#[cA, cB, cC] : Array Value).setIfInBounds j x = #[a, b, c]) :
    ChS w ga gd raw n As Cs Ts a b c vA vB vC u (wr.setCell ⟨ga, j, none⟩ x) := by
  obtain ⟨cs, hgd⟩ := h.dice.typed
  have hne : gd ≠ ga := fun e => by have := h.bk; rw [← e, hgd] at this; injection this with this; injection this with _ this; exact absurd this (by decide)
  exact ⟨h.lga, h.lgd, blk_put h.bk j x e, Kd.R_set h.rA h.bk (by decide) j x, Kd.R_set h.rB h.bk (by decide) j x, Kd.R_set h.rC h.bk (by decide) j x, h.dice.block (Below.heap_setCell _ _ _ _ hne), below_set h.bel h.lga⟩
end
end Go.Proofs.Ytdgemabmmomebaa.PDelta
end
section
namespace Go.Proofs.Ytdgemabmmomebaa.PDelta
open Go.RowKit Go.Proofs.YtdgemabmmomebaaW.PrintWords Go.Proofs.YtdgemabmmomebaaW.PrintLast Go.Proofs.YtdgemabmmomebaaW.PrintMore
set_option linter.unusedVariables false
set_option linter.unusedSimpArgs false
def chR (raw : List Int) (name : ByteArray) : Nat → Nat → Nat → List (List S84) → List Bool → List (List S38) → Option (List (List S84) × List Bool × List (List S38))
  | 0, i, u, As, Cs, Ts => some (As, Cs, Ts)
  | m + 1, i, u, As, Cs, Ts => (rollF raw (rollU raw u) 8).bind fun y => (rollF raw (rollU raw (rollU raw u)) 8).bind fun z =>
    chL raw name m (i + 1) (rollU raw (rollU raw (rollU raw u))) As (Cs ++ [z == 0]) (Ts ++ [attrsL y name])
theorem chL_eq (raw : List Int) (name : ByteArray) (m i u : Nat) (As : List (List S84)) (Cs : List Bool) (Ts : List (List S38)) :
    chL raw name m i u As Cs Ts = (rollF raw u 8).bind fun x => chR raw name m i u (As ++ [addsL i name (x - 5).toNat]) Cs Ts := by cases m <;> rfl
theorem chL_len (raw : List Int) (name : ByteArray) : ∀ (m i u : Nat) (As : List (List S84)) (Cs : List Bool) (Ts : List (List S38)) (t : List (List S84) × List Bool × List (List S38)), chL raw name m i u As Cs Ts = some t →
    t.1.length = As.length + m + 1 ∧ t.2.1.length = Cs.length + m ∧ t.2.2.length = Ts.length + m
  | 0, i, u, As, Cs, Ts, t, h => by
    obtain ⟨x, _, h⟩ := Option.bind_eq_some_iff.1 h
    injection h with h
    subst h
    simp
  | m + 1, i, u, As, Cs, Ts, t, h => by
    obtain ⟨x, _, h⟩ := Option.bind_eq_some_iff.1 h
    obtain ⟨y, _, h⟩ := Option.bind_eq_some_iff.1 h
    obtain ⟨z, _, h⟩ := Option.bind_eq_some_iff.1 h
    have := chL_len raw name m _ _ _ _ _ t h
    simp only [List.length_append, List.length_singleton] at this
    omega
theorem r_readsM {α : Type} {d : Kd α} {e : Nat} {w : World} {base : Nat} {ok : Nat → Prop} {A : Option Addr} {n c : Nat} {xs : List α} (h : d.R e w base ok (.slice A n c) xs) : ReadsRow (d.M w base (fun k => ok k ∧ some k ≠ (Value.slice A n c).ownBlock)) d.sz w A n xs := by
  obtain ⟨A', c', he, hl, hr⟩ := OwnRow.reads h.2
  injection he with h1 h2 h3
  subst h1
  rw [h2] at hr ⊢
  exact hr
theorem m_apart {α β : Type} {d : Kd α} {d' : Kd β} {e' : Nat} {wr : World} {base base' : Nat} {ok ok' : Nat → Prop} {x : α} {cs : List Value} {v' : Value} {ys : List β} (h : d.M wr base ok x cs) (h' : d'.R e' wr base' ok' v' ys) (ht : ∀ q, q ∈ d.E → q ≠ e') : d.M wr base (fun k => ok k ∧ some k ≠ v'.ownBlock) x cs := by
  cases hv : v'.ownBlock with
  | none => exact d.M_mono (fun k hk => ⟨hk, by simp⟩) h
  | some g =>
    obtain ⟨cells, hc⟩ := Kd.R_typed h' g hv
    exact d.M_mono (fun k hk => ⟨hk.1, fun e => hk.2 (Option.some.inj e)⟩) (Kd.M_types h hc ht)
theorem ChS.made {w wr w1 : World} {ga gd n : Nat} {raw : List Int} {As : List (List S84)} {Cs : List Bool} {Ts : List (List S38)} {cA cB cC vA vB vC u : Value} (h : ChS w ga gd raw n As Cs Ts cA cB cC vA vB vC u wr) (hg : wr.grownBy w1 none) (hb : Below w.heap.size w w1) : ChS w ga gd raw n As Cs Ts cA cB cC vA vB vC u w1 := by
  obtain ⟨cs, hd⟩ := h.dice.typed
  exact ⟨h.lga, h.lgd, (hg.block _ (blk_lt h.bk) (by simp)).trans h.bk, Kd.R_grown h.rA hg (fun _ _ => by simp), Kd.R_grown h.rB hg (fun _ _ => by simp), Kd.R_grown h.rC hg (fun _ _ => by simp), h.dice.block (hg.block _ (blk_lt hd) (by simp)), hb⟩
theorem info63 : (Try.prog.info? 63).map (fun i => (i.zero, i.size, i.bytes)) = some (some (.slice none 0 0), 1, 24) := by kernel_rfl
theorem info4 : (Try.prog.info? 4).map (fun i => (i.zero, i.size, i.bytes)) = some (some (.bool false), 1, 1) := by kernel_rfl
theorem info32 : (Try.prog.info? 32).map (fun i => (i.zero, i.size, i.bytes)) = some (some (.slice none 0 0), 1, 24) := by kernel_rfl
theorem roll8_range {raw : List Int} {u : Nat} {x : Int} (h : rollF raw u 8 = some x) : 0 ≤ x ∧ x ≤ 7 := by
  unfold rollF at h
  split at h
  · injection h with h; omega
  · rw [show wrap64 (8 - 1) = 7 by unfold wrap64; omega] at h
    obtain ⟨q, hq⟩ : ∃ q, q = wrap64 (rd raw ((u % raw.length : Nat) : Int) + (((u + 1) / raw.length : Nat) : Int)) := ⟨_, rfl⟩
    rw [← hq] at h
    clear hq
    unfold chanceryref1_Within.f at h
    rw [show wrap64 (7 - 0) = 7 by unfold wrap64; omega, show wrap64 (7 + 1) = 8 by unfold wrap64; omega, if_neg (by decide)] at h
    simp only [Int.reduceLE, ↓reduceIte, Option.some.injEq] at h
    have h3 : -8 < Int.tmod q 8 ∧ Int.tmod q 8 < 8 := ⟨Int.lt_tmod_of_pos q (by decide), Int.tmod_lt_of_pos q (by decide)⟩
    have h4 : wrap64 (Int.tmod q 8 + 8) = Int.tmod q 8 + 8 := by unfold wrap64; omega
    rw [h4] at h
    have h5 : 0 ≤ Int.tmod (Int.tmod q 8 + 8) 8 := Int.tmod_nonneg _ (by omega)
    have h6 : Int.tmod (Int.tmod q 8 + 8) 8 < 8 := Int.tmod_lt_of_pos _ (by decide)
    have h7 : wrap64 (0 + Int.tmod (Int.tmod q 8 + 8) 8) = Int.tmod (Int.tmod q 8 + 8) 8 := by unfold wrap64; omega
    rw [h7] at h
    omega
theorem sum_w (i j M c : Nat) (hi : i ≤ M) (hM : M ≤ 1048576) (hj : j < c) (hc : c ≤ 2) : wrap64 ((i : Int) + (j : Int)) = ((i + j : Nat) : Int) := by unfold wrap64; omega
theorem sum_q (i j q : Nat) (hq : q = (i + j) % 26) : Int.tmod ((i + j : Nat) : Int) 26 = (q : Int) := by rw [Int.tmod_eq_emod_of_nonneg (Int.natCast_nonneg _), hq]; omega
theorem sum_q2 (i j q : Nat) (hq : q = (i + j) % 26) : Int.tmod ((i : Int) + (j : Int)) 26 = (q : Int) := sum_q i j q hq
theorem sum_65 (q : Nat) (h : q < 26) : wrap64 (65 + (q : Int)) = 65 + (q : Int) := by unfold wrap64; omega
theorem q_lt (i j : Nat) : (i + j) % 26 < 26 := Nat.mod_lt _ (Nat.zero_lt_succ _)
theorem addsL_len (i : Nat) (name : ByteArray) : ∀ j, (addsL i name j).length = j
  | 0 => rfl
  | j + 1 => by rw [addsL, List.length_append, addsL_len i name j]; rfl
theorem rollU_le (raw : List Int) (u : Nat) : rollU raw u ≤ u + 1 := by unfold rollU; split <;> omega
set_option maxRecDepth 100000 in
set_option maxHeartbeats 1000000 in
theorem change_calls (k : Nat) (n : Int) (A0 : Option Addr) (c0 : Nat) (raw : List Int) (name : ByteArray) (r : List S70) (w : World) (hr0 : Kd.C (Kd.int .i64) w A0 raw.length raw) (hc0 : raw.length ≤ c0) (h : changeF k n raw name = some r) :
    Calls Try.prog 43 #[.int .i64 n, .slice A0 raw.length c0, .string name] w fun e w' => ∃ v0_ : Value, e = .returned v0_ ∧ Kd.N k70 70 w' w.heap.size (fun _ => True) v0_ r ∧ Below w.heap.size w w' := by
  have hu70 := Try.underlying70
  have hu84 := Try.underlying84
  have hu38 := Try.underlying38
  have hu123 := Try.underlying123
  have hon2 : chancerykeep1_on.f (⟨#[98, 111, 108, 100]⟩ : ByteArray) = some (onL sBold) := rfl
  have hon : chancerykeep1_on.f name = some (onL name) := rfl
  have hu100 := Try.underlying100
  have HR0 := Aside0.mk hr0
  have HC0 := Aside0.mk hc0
  rw [changeF] at h
  by_cases hn : 0 ≤ n ∧ n ≤ 1048576
  rotate_left
  · rw [if_neg hn] at h
    cases h
  rw [if_pos hn] at h
  obtain ⟨⟨Ar, Cr, Tr⟩, ht, hdof⟩ := Option.bind_eq_some_iff.1 h
  obtain ⟨M, hM⟩ : ∃ M : Nat, n = (M : Int) := ⟨n.toNat, by omega⟩
  subst hM
  rw [Int.toNat_natCast] at ht
  have HM := Aside0.mk (show M ≤ 1048576 by omega)
  have HLN := Aside0.mk (show Ar.length = M + 1 ∧ Cr.length = M ∧ Tr.length = M by have := chL_len _ _ _ _ _ _ _ _ _ ht; simpa using this)
  have HZ := Aside0.mk (show chL raw name (M - 0) 0 0 [] [] [] = some (Ar, Cr, Tr) from ht)
  have HDL := Aside0.mk (show dofL k Ar Cr Tr [] [] 0 = some r from hdof)
  clear hdof
  clear hr0 hc0 h hn ht
  have HJ0 : Aside0 (ChS w w.heap.size (w.heap.size + 1) raw 0 [] [] [] (.slice none 0 0) (.slice none 0 0) (.slice none 0 0) (.slice none 0 0) (.slice none 0 0) (.slice none 0 0) (.slice none 0 0) ((w.alloc (Obj.cells #[Value.slice none 0 0, Value.slice none 0 0, Value.slice none 0 0] 123 (0, 0))).alloc (Obj.cells #[Value.slice A0 raw.length c0, Value.int IntKind.i64 0] 100 (0, 0)))) := by
    refine ⟨⟨Nat.le_refl _, by omega, blk_alloc (blk_new w _) _, Kd.R_nil _ _ _ _ _, Kd.R_nil _ _ _ _ _, Kd.R_nil _ _ _ _ _, ⟨A0, c0, ?_, HR0.out, HC0.out⟩, below_alloc (below_alloc (Below.refl _ _) _) _⟩⟩
    have := blk_new (w.alloc (Obj.cells #[Value.slice none 0 0, Value.slice none 0 0, Value.slice none 0 0] 123 (0, 0))) (Obj.cells #[Value.slice A0 raw.length c0, Value.int IntKind.i64 0] 100 (0, 0))
    rw [World.size_alloc] at this
    exact this
  go_enter Try.func43, Try.ntmps43
  go_wp2
  obtain ⟨gd, hgd⟩ : ∃ g, g = w.heap.size + 1 := ⟨_, rfl⟩
  rw [← hgd] at HJ0
  rw [← hgd]
  clear hgd
  obtain ⟨ga, hga⟩ : ∃ g, g = w.heap.size := ⟨_, rfl⟩
  have HJ1 : Aside0 (ChS w ga gd raw 0 [] [] [] (.slice none 0 0) (.slice none 0 0) (.slice none 0 0) (.slice none 0 0) (.slice none 0 0) (.slice none 0 0) (.slice none 0 0) ((w.alloc (Obj.cells #[Value.slice none 0 0, Value.slice none 0 0, Value.slice none 0 0] 123 (0, 0))).alloc (Obj.cells #[Value.slice A0 raw.length c0, Value.int IntKind.i64 0] 100 (0, 0)))) := ⟨by rw [hga]; exact HJ0.out⟩
  rw [show w.heap.size = ga from hga.symm]
  clear hga HJ0
  go_loopg [9] (M + 1) (fun m v9 wr => ∃ (i u : Nat) (As : List (List S84)) (Cs : List Bool) (Ts : List (List S38)) (vA vB vC : Value), v9 = .int .i64 (i : Int) ∧ Aside0 (m + i = M + 1 ∧ u ≤ 3 * i ∧ As.length = i ∧ Cs.length = i ∧ Ts.length = i) ∧ Aside0 (ChS w ga gd raw u As Cs Ts vA vB vC vA vB vC (.slice none 0 0) wr) ∧ Aside0 (chL raw name (M - i) i u As Cs Ts = some (Ar, Cr, Tr)))
  case atStart => exact ⟨0, 0, [], [], [], _, _, _, rfl, ⟨by simp⟩, HJ1, HZ⟩
  case round =>
    clear HJ1 HZ
    obtain ⟨i, u, As, Cs, Ts, vA, vB, vC, rfl, HI, HS, HL⟩ := hrel
    by_cases hi : i ≤ M
    rotate_left
    · have g1 : decide ((i : Int) ≤ (M : Int)) = false := decide_eq_false (by omega)
      have hL := HL.out
      rw [chL_eq] at hL
      exfalso
      have h1 := HLN.out
      have h2 := chL_len _ _ _ _ _ _ _ _ _ HL.out
      have := HI.out
      simp only [List.length_nil] at h1 h2
      omega
    obtain ⟨gl, rfl⟩ : ∃ gl, gk = gl + 1 := ⟨gk - 1, by have := HI.out; omega⟩
    have g1 : decide ((i : Int) ≤ (M : Int)) = true := decide_eq_true (by omega)
    have g1' : decide (i ≤ M) = true := decide_eq_true hi
    have hL := HL.out
    rw [chL_eq] at hL
    obtain ⟨x, hx, hL⟩ := Option.bind_eq_some_iff.1 hL
    have HX := Aside0.mk hx
    have HLR := Aside0.mk hL
    have HXR := Aside0.mk (roll8_range hx)
    obtain ⟨c, hc⟩ : ∃ c : Nat, c = (x - 5).toNat := ⟨_, rfl⟩
    rw [← hc] at HLR
    obtain ⟨y, hy⟩ : ∃ y, y = x - 5 := ⟨_, rfl⟩
    have hw1 : IntKind.i64.wrap (x - 5) = y := by rw [i64_w, hy]; have := HXR.out; unfold wrap64; omega
    have hw2 : wrap64 (x - 5) = y := by rw [hy]; have := HXR.out; unfold wrap64; omega
    have hmx : (if 0 < y then y else 0) = (c : Int) := by rw [hc, hy]; split <;> omega
    have HCB := Aside0.mk (show c ≤ 2 by rw [hc]; have := HXR.out; omega)
    clear hx hL HL hc hy
    go_wp2_with (go_at_call 70; (with_reducible refine (HS.out.roll_calls (by have := HI.out; have := HM.out; omega) HX.out).mono ?_); rintro e1 w5 ⟨rfl, hJ, _, _⟩; clear HS; have HS := Aside0.mk hJ; clear hJ)
    clear hw1 hw2 hmx
    go_loopg [10, 25] c (fun m v10 v25 wx => ∃ (j : Nat), v25 = .int .i64 (j : Int) ∧ Aside0 (m + j = c) ∧ Aside0 (ChS w ga gd raw (rollU raw u) As Cs Ts vA vB vC vA vB vC v10 wx ∧ Kd.R k84 84 wx w.heap.size (fun _ => True) v10 (addsL i name j)))
    case atStart => exact ⟨0, rfl, ⟨rfl⟩, ⟨HS.out, Kd.R_nil _ _ _ _ _⟩⟩
    case round =>
      clear HS
      obtain ⟨j, rfl, HJ, HS⟩ := hrel
      obtain ⟨A4, n4, e4⟩ := Kd.R_slice HS.out.2
      subst e4
      by_cases hj : j < c
      · obtain ⟨g2, rfl⟩ : ∃ g2, gk = g2 + 1 := ⟨gk - 1, by have := HJ.out; omega⟩
        have k1 : decide ((j : Int) < (c : Int)) = true := decide_eq_true (by omega)
        have k1' : decide (j < c) = true := decide_eq_true hj
        go_upto_region 10 with (fail)
        have HWK := Aside0.mk (show wrap64 ((j : Int) + 1) = (j : Int) + 1 by have := HCB.out; unfold wrap64; omega)
        have hlen : (addsL i name j).length = j := addsL_len i name j
        have HJL := Aside0.mk (show (addsL i name j).length ≤ 2 by have := HCB.out; omega)
        have HJ3 := Aside0.mk (show g2 + (j + 1) = c by have := HJ.out; omega)
        have HIM := Aside0.mk hi
        have HJC := Aside0.mk hj
        clear hlen
        obtain ⟨q, hq⟩ : ∃ q : Nat, q = (i + j) % 26 := ⟨_, rfl⟩
        have HQ := Aside0.mk (show addsL i name (j + 1) = addsL i name j ++ [⟨65 + (q : Int), 0, onL name⟩] by rw [addsL, hq])
        have w1 := sum_w i j M c hi HM.out hj HCB.out
        have w2 := sum_q i j q hq
        have w2' := sum_q2 i j q hq
        have w3 := sum_65 q (by rw [hq]; exact q_lt i j)
        clear hq hj hi
        go_upto_region 11 with (first
          | (go_at_call 83; with_reducible refine (chancerykeep1_on.calls name (onL name) _ hon).mono ?_; rintro e w6 ⟨v6, rfl, hR6, hb6⟩; obtain ⟨A6, n6, rfl⟩ := Kd.R_slice hR6; have HR6 := Aside0.mk (Kd.R_lower (Kd.R_newR hR6 HS.out.2) HS.out.1.bel.size); have HS6 := Aside0.mk (And.intro (HS.out.1.below hb6) (Kd.R_below HS.out.2 hb6)); clear hR6 hb6)
          | (at_builtin; refine Kd.R_append k84 (w0 := w) w.heap.size rfl (.tmp 28) (.tmp 37) 63 84 (.agg #[.int .i64 0, .int .i64 0, .slice none 0 0]) 40 rfl Try.underlying63 info84 rfl (by decide) (by decide) _ (addsL i name j) ⟨65 + (q : Int), 0, onL name⟩ _ (fun _ => True) (fun k => True ∧ some k ≠ (Value.slice A4 (addsL i name j).length n4).ownBlock) rfl (by simp [Act.eval]) (k84_mkM _ _ _ ⟨65 + (q : Int), 0, onL name⟩ HR6.out) (fun _ hk => hk) (fun _ _ => trivial) HS6.out.2 HS6.out.1.bel HS6.out.1.bel.size (by have := HJL.out; omega) ?_; intro v1 w7 hR7 hB7 hg7 hat7; have HS7 := Aside0.mk (And.intro (HS6.out.1.appU HS6.out.2 hg7 hat7 hB7) hR7); clear hR7 hB7 hg7 hat7))
        clear w1 w2 w2' w3
        have hi := HIM.out
        have wk2 := HWK.out
        go_wp2
        go_roundg g2
        case measure => omega
        case rel => exact ⟨j + 1, by simp [wk2], HJ3, ⟨HS7.out.1, by rw [HQ.out]; exact HS7.out.2⟩⟩
      · obtain rfl : c = j := by have := HJ.out; omega
        have k1 : decide ((c : Int) < (c : Int)) = false := decide_eq_false (by omega)
        have k1' : decide (c < c) = false := decide_eq_false hj
        obtain ⟨A5, n5, e5⟩ := Kd.R_slice HS.out.1.rA
        subst e5
        have hcA : wr.cell? ⟨ga, 0, none⟩ = some (.slice A5 As.length n5) := (blk_cell HS.out.1.bk 0).trans rfl
        have HAL := Aside0.mk (show As.length ≤ 1048577 by have := HI.out; have := HM.out; omega)
        have HIM := Aside0.mk hi
        clear hj
        go_upto_region 13 with (at_builtin; refine Kd.R_append (Kd.slice 84 k84) (w0 := w) w.heap.size rfl (.tmp 41) (.tmp 43) 119 63 (.slice none 0 0) 24 rfl Try.underlying119 info63 rfl (by decide) (by decide) _ As (addsL i name c) _ (fun _ => True) (fun k => True ∧ some k ≠ (Value.slice A5 As.length n5).ownBlock) rfl (by simp [Act.eval]) ⟨_, rfl, Kd.R_apartR HS.out.2 HS.out.1.rA (by decide)⟩ (fun _ hk => hk) (fun _ _ => trivial) (Kd.R_mono HS.out.1.rA (fun _ _ => trivial)) HS.out.1.bel HS.out.1.bel.size (by have := HAL.out; omega) ?_; intro v1 w7 hR7 hB7 hg7 hat7; obtain ⟨Ax, hAx⟩ : ∃ l, l = As ++ [addsL i name c] := ⟨_, rfl⟩; rw [← hAx] at hR7 HLR; have HAX := Aside0.mk (show Ax.length = As.length + 1 by rw [hAx]; simp); clear hAx; obtain ⟨A7, n7, e7⟩ := Kd.R_slice hR7; subst e7; have HS7 := Aside0.mk (HS.out.1.appA hR7 hg7 hB7); have hd0 : w7.cell? ⟨ga, 0, none⟩ = some _ := (blk_cell HS7.out.bk 0).trans rfl; have hf0 := blk_frozen HS7.out.bk 0; clear hR7 hB7 hg7 hat7)
        have HS8 := Aside0.mk (HS7.out.set 0 (.slice A7 Ax.length n7) (.slice A7 Ax.length n7) vB vC rfl)
        obtain ⟨w8, hw8⟩ : ∃ W, W = w7.setCell ⟨ga, 0, none⟩ (Value.slice A7 Ax.length n7) := ⟨_, rfl⟩
        rw [← hw8] at HS8
        rw [← hw8]
        clear hw8 hd0 hf0 HS7 HS hcA k1 k1'
        obtain ⟨B7, m7, e8⟩ := Kd.R_slice HS8.out.rB
        obtain ⟨D7, l7, e9⟩ := Kd.R_slice HS8.out.rC
        subst e8
        subst e9
        have hi := HIM.out
        by_cases him : i = M
        · have g3 : ((i : Int) == (M : Int)) = true := beq_iff_eq.mpr (by omega)
          have g3' : (i == M) = true := beq_iff_eq.mpr him
          have hL := HLR.out
          rw [show M - i = 0 by omega, chR] at hL
          injection hL with hL
          injection hL with hL1 hL
          injection hL with hL2 hL3
          subst hL1 hL2 hL3
          have hcA : w8.cell? ⟨ga, 0, none⟩ = some (.slice A7 Ax.length n7) := (blk_cell HS8.out.bk 0).trans rfl
          have hcB : w8.cell? ⟨ga, 1, none⟩ = some (.slice B7 Cs.length m7) := (blk_cell HS8.out.bk 1).trans rfl
          have hcC : w8.cell? ⟨ga, 2, none⟩ = some (.slice D7 Ts.length l7) := (blk_cell HS8.out.bk 2).trans rfl
          clear hi him HIM
          have HC1 := Aside0.mk (Kd.R_reads' HS8.out.rA).2.2
          have HC2 := Aside0.mk (Kd.R_reads' HS8.out.rB).2.2
          have HC3 := Aside0.mk (Kd.R_reads' HS8.out.rC).2.2
          go_wp2_with (go_at_call 84; go_loud ((with_reducible refine (dof_calls k _ n7 Ax _ m7 Cs _ l7 Ts r w8 HC1.out HC2.out HC3.out (by have := HLN.out; omega) (by have := HLN.out; omega) (by have := HLN.out; have := HM.out; omega) HDL.out).mono ?_); rintro e1 w9 ⟨v9, rfl, hR9, hB9⟩; have HR9 := Aside0.mk (Kd.N_lower hR9 HS8.out.bel.size); have HB9 := Aside0.mk (below_step HS8.out.bel hB9); clear hR9 hB9))
          first | go_ret | go_ret2
          exact ⟨_, rfl, HR9.out, HB9.out⟩
        · have g3 : ((i : Int) == (M : Int)) = false := beq_eq_false_iff_ne.mpr (by omega)
          have g3' : (i == M) = false := beq_eq_false_iff_ne.mpr him
          obtain ⟨m, hm⟩ : ∃ m, M - i = m + 1 := ⟨M - i - 1, by omega⟩
          have hL := HLR.out
          rw [hm, chR] at hL
          obtain ⟨y1, hy1, hL⟩ := Option.bind_eq_some_iff.1 hL
          obtain ⟨z1, hz1, hL⟩ := Option.bind_eq_some_iff.1 hL
          have HY := Aside0.mk hy1
          have HZ1 := Aside0.mk hz1
          have HLL := Aside0.mk (show chL raw name (M - (i + 1)) (i + 1) (rollU raw (rollU raw (rollU raw u))) Ax (Cs ++ [z1 == 0]) (Ts ++ [attrsL y1 name]) = some (Ar, Cr, Tr) by rw [show M - (i + 1) = m by omega]; exact hL)
          have HYR := Aside0.mk (roll8_range hy1)
          have HU := Aside0.mk (show rollU raw u ≤ 3 * i + 1 by have := rollU_le raw u; have := HI.out; omega)
          have HU2 := Aside0.mk (show rollU raw (rollU raw u) ≤ 3 * i + 2 by have := rollU_le raw (rollU raw u); have := HU.out; omega)
          have HU3 := Aside0.mk (show rollU raw (rollU raw (rollU raw u)) ≤ 3 * i + 3 by have := rollU_le raw (rollU raw (rollU raw u)); have := HU2.out; omega)
          clear hL hy1 hz1 hm him hi
          go_upto_block 4 with (go_at_call 70; (with_reducible refine (HS8.out.roll_calls (by have := HU.out; have := HIM.out; have := HM.out; omega) HY.out).mono ?_); rintro e1 w9 ⟨rfl, hJ, _, _⟩; have HS9 := Aside0.mk hJ; clear hJ)
          go_cut [12] (fun v12 wx => Aside0 (ChS w ga gd raw (rollU raw (rollU raw u)) Ax Cs Ts (.slice A7 Ax.length n7) (.slice B7 Cs.length m7) (.slice D7 Ts.length l7) (.slice A7 Ax.length n7) (.slice B7 Cs.length m7) (.slice D7 Ts.length l7) (.slice none 0 0) wx ∧ Kd.R k38 38 wx w.heap.size (fun _ => True) v12 (attrsL y1 name)))
          case first =>
            by_cases q1 : y1 = 1
            · have q1b : (y1 == 1) = true := beq_iff_eq.mpr q1
              have HEQ := Aside0.mk (show attrsL y1 name = onL sBold from if_pos q1)
              clear q1
              go_wp2_with (go_at_call 83; with_reducible refine (chancerykeep1_on.calls (⟨#[98, 111, 108, 100]⟩ : ByteArray) (onL sBold) _ hon2).mono ?_; rintro e w10 ⟨v6, rfl, hR6, hb6⟩; have HR10 := Aside0.mk (Kd.R_lower hR6 HS9.out.bel.size); have HS10 := Aside0.mk (HS9.out.below hb6); clear hR6 hb6)
              go_meet
              case rel => exact ⟨HS10.out, by rw [HEQ.out]; exact HR10.out⟩
            have q1b : (y1 == 1) = false := beq_eq_false_iff_ne.mpr q1
            by_cases q2 : y1 = 2
            · have q2b : (y1 == 2) = true := beq_iff_eq.mpr q2
              have HEQ := Aside0.mk (show attrsL y1 name = [⟨sBold, sNil⟩] from (if_neg q1).trans (if_pos q2))
              clear q1 q2
              go_wp2_with (first | ((with_reducible refine gate_dst (N := 57) rfl ?_); refine Kd.R_lit k38 _ 38 ?hg (N := 57) ?hd (xs := ([(⟨(⟨#[98, 111, 108, 100]⟩ : ByteArray), (⟨#[]⟩ : ByteArray)⟩ : S38)] : List S38)) (inner := [.string (⟨#[98, 111, 108, 100]⟩ : ByteArray), .string (⟨#[]⟩ : ByteArray)]) (ok := fun _ => True) (okp := fun _ => True) ?hr ?hp (fun _ hk => hk) trivial (Below.refl _ _) (Nat.le_refl _) (by simp) ?_; (case hd => rfl); (case hg => rfl); (case hr => first | (go_simp; done) | (go_simp; rfl)); (case hp => exact (Reps.c2 (show Kd.M k38 _ _ _ (⟨(⟨#[98, 111, 108, 100]⟩ : ByteArray), (⟨#[]⟩ : ByteArray)⟩ : S38) [.string (⟨#[98, 111, 108, 100]⟩ : ByteArray), .string (⟨#[]⟩ : ByteArray)] from (k38_mkM _ _ _ (⟨(⟨#[98, 111, 108, 100]⟩ : ByteArray), (⟨#[]⟩ : ByteArray)⟩ : S38))) (Reps.none _ _))); intro v10_ w10 hR10 hb10 hg_ hnew_; have HR10 := Aside0.mk (Kd.R_lower hR10 HS9.out.bel.size); have HS10 := Aside0.mk (HS9.out.below hb10); clear hR10 hb10 hg_ hnew_))
              go_meet
              case rel => exact ⟨HS10.out, by rw [HEQ.out]; exact HR10.out⟩
            have q2b : (y1 == 2) = false := beq_eq_false_iff_ne.mpr q2
            by_cases q3 : y1 = 3
            · have q3b : (y1 == 3) = true := beq_iff_eq.mpr q3
              have HEQ := Aside0.mk (show attrsL y1 name = [⟨sBold, name⟩, ⟨name, sOn⟩] from (if_neg q1).trans ((if_neg q2).trans (if_pos q3)))
              clear q1 q2 q3
              go_wp2_with (first | ((with_reducible refine gate_dst (N := 64) rfl ?_); refine Kd.R_lit k38 _ 38 ?hg (N := 64) ?hd (xs := ([(⟨(⟨#[98, 111, 108, 100]⟩ : ByteArray), name⟩ : S38), (⟨name, (⟨#[111, 110]⟩ : ByteArray)⟩ : S38)] : List S38)) (inner := [.string (⟨#[98, 111, 108, 100]⟩ : ByteArray), .string name, .string name, .string (⟨#[111, 110]⟩ : ByteArray)]) (ok := fun _ => True) (okp := fun _ => True) ?hr ?hp (fun _ hk => hk) trivial (Below.refl _ _) (Nat.le_refl _) (by simp) ?_; (case hd => rfl); (case hg => rfl); (case hr => first | (go_simp; done) | (go_simp; rfl)); (case hp => exact (Reps.c2 (show Kd.M k38 _ _ _ (⟨(⟨#[98, 111, 108, 100]⟩ : ByteArray), name⟩ : S38) [.string (⟨#[98, 111, 108, 100]⟩ : ByteArray), .string name] from (k38_mkM _ _ _ (⟨(⟨#[98, 111, 108, 100]⟩ : ByteArray), name⟩ : S38))) (Reps.c2 (show Kd.M k38 _ _ _ (⟨name, (⟨#[111, 110]⟩ : ByteArray)⟩ : S38) [.string name, .string (⟨#[111, 110]⟩ : ByteArray)] from (k38_mkM _ _ _ (⟨name, (⟨#[111, 110]⟩ : ByteArray)⟩ : S38))) (Reps.none _ _)))); intro v10_ w10 hR10 hb10 hg_ hnew_; have HR10 := Aside0.mk (Kd.R_lower hR10 HS9.out.bel.size); have HS10 := Aside0.mk (HS9.out.below hb10); clear hR10 hb10 hg_ hnew_))
              go_meet
              case rel => exact ⟨HS10.out, by rw [HEQ.out]; exact HR10.out⟩
            have q3b : (y1 == 3) = false := beq_eq_false_iff_ne.mpr q3
            have HEQ := Aside0.mk (show attrsL y1 name = [] from (if_neg q1).trans ((if_neg q2).trans (if_neg q3)))
            clear q1 q2 q3
            go_wp2
            go_meet
            case rel => exact ⟨HS9.out, by rw [HEQ.out]; exact Kd.R_nil _ _ _ _ _⟩
          case rest =>
          obtain ⟨hC0, hV0⟩ := hcut.out
          obtain ⟨at_, hat⟩ : ∃ l, l = attrsL y1 name := ⟨_, rfl⟩
          rw [← hat] at hV0 HLL
          clear hat
          obtain ⟨A12, n12, e12⟩ := Kd.R_slice hV0
          subst e12
          obtain ⟨zb, hzb⟩ : ∃ b, (z1 == 0) = b := ⟨_, rfl⟩
          rw [hzb] at HLL
          obtain ⟨Cx, hCx⟩ : ∃ l, l = Cs ++ [zb] := ⟨_, rfl⟩
          obtain ⟨Tx, hTx⟩ : ∃ l, l = Ts ++ [at_] := ⟨_, rfl⟩
          rw [← hCx, ← hTx] at HLL
          have HCX := Aside0.mk hCx
          have HTX := Aside0.mk hTx
          have HIG := Aside0.mk (show gl + (i + 1) = M + 1 ∧ rollU raw (rollU raw (rollU raw u)) ≤ 3 * (i + 1) ∧ Ax.length = i + 1 ∧ Cx.length = i + 1 ∧ Tx.length = i + 1 by
            have h1 := HI.out
            have h2 := HU3.out
            have h3 := HAX.out
            rw [hCx, hTx, List.length_append, List.length_append, List.length_singleton, List.length_singleton]
            omega)
          have HCL := Aside0.mk (show Cs.length ≤ 1048576 ∧ Ts.length ≤ 1048576 by have := HI.out; have := HM.out; have := HIM.out; omega)
          have HWI := Aside0.mk (show wrap64 ((i : Int) + 1) = (i : Int) + 1 by have := HM.out; have := HIM.out; unfold wrap64; omega)
          have HC := Aside0.mk hC0.drew
          have HV := Aside0.mk (Kd.R_drew hV0)
          clear hC0 hV0 hCx hTx hcut HS9 HS8
          go_upto_region 22 with (fail)
          refine start_ (n := 16) (S := fun w' => w'.cell? ⟨ga, 1, none⟩ = some (.slice B7 Cs.length m7) ∧ w'.cell? ⟨ga, 2, none⟩ = some (.slice D7 Ts.length l7)) (ds := [13, 15]) #[false, false, false, false, false, false, false, false, false, false, false, false, false, false, false, false] (by kernel_rfl) rfl rfl ⟨((blk_cell HC.out.bk 1).trans rfl), ((blk_cell HC.out.bk 2).trans rfl)⟩ (fun hHeld => ?_)
          refine pure_ (i := 0) (N := some 65) (v := ?_) (a' := ?_) #[true, false, false, false, false, false, false, false, false, false, false, false, false, false, false, false] rfl rfl (by kernel_rfl) (fun _ _ _ h => h) (Or.inl ⟨by rfl, ?_⟩) ?_ ?_
          rotate_left
          · intro w'
            go_simp
            with_reducible rfl
          rotate_left
          · simp only [Act.put, List.setIfInBounds_toArray, List.set_cons_zero, List.set_cons_succ, i64_w, i32_w]
            rfl
          refine pure_ (i := 2) (N := some 67) (v := ?_) (a' := ?_) #[true, false, true, false, false, false, false, false, false, false, false, false, false, false, false, false] rfl rfl (by kernel_rfl) (fun _ _ _ h => h) (Or.inl ⟨by rfl, ?_⟩) ?_ ?_
          rotate_left
          · intro w'
            go_simp
            with_reducible rfl
          rotate_left
          · simp only [Act.put, List.setIfInBounds_toArray, List.set_cons_zero, List.set_cons_succ, i64_w, i32_w]
            rfl
          refine pure_ (i := 7) (N := some 72) (v := ?_) (a' := ?_) #[true, false, true, false, false, false, false, true, false, false, false, false, false, false, false, false] rfl rfl (by kernel_rfl) (fun _ _ _ h => h) (Or.inl ⟨by rfl, ?_⟩) ?_ ?_
          rotate_left
          · intro w'
            go_simp
            with_reducible rfl
          rotate_left
          · simp only [Act.put, List.setIfInBounds_toArray, List.set_cons_zero, List.set_cons_succ, i64_w, i32_w]
            rfl
          refine pure_ (i := 9) (N := some 74) (v := ?_) (a' := ?_) #[true, false, true, false, false, false, false, true, false, true, false, false, false, false, false, false] rfl rfl (by kernel_rfl) (fun _ _ _ h => h) (Or.inl ⟨by rfl, ?_⟩) ?_ ?_
          rotate_left
          · intro w'
            go_simp
            with_reducible rfl
          rotate_left
          · simp only [Act.put, List.setIfInBounds_toArray, List.set_cons_zero, List.set_cons_succ, i64_w, i32_w]
            rfl
          refine take_ (i := 1) (N := some 66) (v := ?_) (a' := ?_) #[true, true, true, false, false, false, false, true, false, true, false, false, false, false, false, false] rfl rfl (by kernel_rfl) (fun _ _ _ h => h) (Or.inl ⟨by rfl, ?_⟩) hHeld ?_ ?_
          rotate_left
          · rintro w' ⟨s0, s1⟩
            go_simp
            with_reducible rfl
          rotate_left
          · simp only [Act.put, List.setIfInBounds_toArray, List.set_cons_zero, List.set_cons_succ, i64_w, i32_w]
            rfl
          refine take_ (i := 8) (N := some 73) (v := ?_) (a' := ?_) #[true, true, true, false, false, false, false, true, true, true, false, false, false, false, false, false] rfl rfl (by kernel_rfl) (fun _ _ _ h => h) (Or.inl ⟨by rfl, ?_⟩) hHeld ?_ ?_
          rotate_left
          · rintro w' ⟨s0, s1⟩
            go_simp
            with_reducible rfl
          rotate_left
          · simp only [Act.put, List.setIfInBounds_toArray, List.set_cons_zero, List.set_cons_succ, i64_w, i32_w]
            rfl
          refine join_ (σ := Value × Value × Value) 4 #[true, true, true, true, true, true, true, true, true, true, true, false, true, false, false, false] (fun s_ => [(68, .int .i64 z1), (69, .bool zb), (70, s_.1), (71, s_.2.1), (75, s_.2.2), (77, .pointer (some ⟨ga, 1, none⟩))]) (fun s_ w' => (w'.cell? ⟨ga, 1, none⟩ = some (.slice B7 Cs.length m7) ∧ w'.cell? ⟨ga, 2, none⟩ = some (.slice D7 Ts.length l7)) ∧ (ChS w ga gd raw (rollU raw (rollU raw (rollU raw u))) Ax Cx Ts (.slice A7 Ax.length n7) (.slice B7 Cs.length m7) (.slice D7 Ts.length l7) (.slice A7 Ax.length n7) (s_.2.1) (.slice D7 Ts.length l7) (.slice none 0 0) w') ∧ (Kd.R (Kd.slice 38 k38) 32 w' w.heap.size (fun _ => True) s_.2.2 [at_])) ?_ ?_
          rotate_left
          · intro hCont
            refine two_ (i := 3) (j := 10) (Ni := some 68) (Nj := some 75) #[true, true, true, true, false, false, false, true, true, true, false, false, false, false, false, false] #[true, true, true, false, false, false, false, true, true, true, true, false, false, false, false, false] rfl rfl rfl rfl (by kernel_rfl) (by decide) (by decide) (fun K hK => ?_) (fun K hK => ?_)
            · skip
              refine goes_ Try.func70 (by kernel_rfl) rfl #[.pointer (some ⟨gd, 0, none⟩), .int .i64 8] (by rfl) rfl rfl (by simp only [List.map_toArray, List.map_cons, List.map_nil]; rfl) ?_
              with_reducible refine (HC.out.roll_calls (by have := HU2.out; have := HIM.out; have := HM.out; omega) HZ1.out).mono ?_
              rintro e w3_ ⟨rfl, hJ, hfr, hsz⟩
              refine ⟨_, rfl, ?_⟩
              obtain ⟨csd, hgd⟩ := HC.out.dice.typed
              have HV := Aside0.mk (r_keep HV.out hgd (by decide) hfr)
              have HC := Aside0.mk hJ
              clear hJ hfr hsz hgd
              refine hK.out _ _ ⟨((blk_cell HC.out.bk 1).trans rfl), ((blk_cell HC.out.bk 2).trans rfl)⟩ (fun hHeld => ?_)
              clear hK K
              refine norm_ (a' := ?_) ?_ ?_
              rotate_left
              · show Act.put _ (some 68) _ = _
                simp only [Act.put, List.setIfInBounds_toArray, List.set_cons_zero, List.set_cons_succ, i64_w, i32_w]
                rfl
              refine pure_ (i := 4) (N := some 69) (v := ?_) (a' := ?_) #[true, true, true, true, true, false, false, true, true, true, false, false, false, false, false, false] rfl rfl (by kernel_rfl) (fun _ _ _ h => h) (Or.inl ⟨by rfl, ?_⟩) ?_ ?_
              rotate_left
              · intro w'
                go_simp
                with_reducible rfl
              rotate_left
              · simp only [Act.put, List.setIfInBounds_toArray, List.set_cons_zero, List.set_cons_succ, i64_w, i32_w]
                rfl
              refine two_ (i := 5) (j := 10) (Ni := some 70) (Nj := some 75) #[true, true, true, true, true, true, false, true, true, true, false, false, false, false, false, false] #[true, true, true, true, true, false, false, true, true, true, true, false, false, false, false, false] rfl rfl rfl rfl (by kernel_rfl) (by decide) (by decide) (fun K hK => ?_) (fun K hK => ?_)
              · skip
                refine Kd.R_lit_step Kd.bool (w0 := w) w.heap.size 4 (by rfl) (N := 70) rfl (xs := [zb]) (inner := [.bool zb]) (ok := fun _ => True) (okp := fun _ => True) ?hr ?hp (fun _ hk => hk) trivial HC.out.bel HC.out.bel.size (by simp) ?_
                case hr => first | (go_simp; done) | (go_simp; rfl)
                case hp => exact Reps.one rfl (Reps.none _ _)
                intro v5_ w5_ hR hB hg hn
                have HC := Aside0.mk (HC.out.made hg hB)
                have HV := Aside0.mk (Kd.R_grown HV.out hg (fun _ _ => by simp))
                obtain ⟨A5, c5, e5⟩ : ∃ A c, v5_ = .slice A 1 c := Kd.R_slice hR
                subst e5
                have H5 := Aside0.mk hR
                clear hR hB hg hn
                refine hK.out _ _ ⟨((blk_cell HC.out.bk 1).trans rfl), ((blk_cell HC.out.bk 2).trans rfl)⟩ (fun hHeld => ?_)
                clear hK K
                refine norm_ (a' := ?_) ?_ ?_
                rotate_left
                · show Act.put _ (some 70) _ = _
                  simp only [Act.put, List.setIfInBounds_toArray, List.set_cons_zero, List.set_cons_succ, i64_w, i32_w]
                  rfl
                refine two_ (i := 6) (j := 10) (Ni := some 71) (Nj := some 75) #[true, true, true, true, true, true, true, true, true, true, false, false, false, false, false, false] #[true, true, true, true, true, true, false, true, true, true, true, false, false, false, false, false] rfl rfl rfl rfl (by kernel_rfl) (by decide) (by decide) (fun K hK => ?_) (fun K hK => ?_)
                · skip
                  refine Kd.R_append_rows_step Kd.bool (w0 := w) w.heap.size (by rfl) (.tmp 66) (.tmp 70) 120 4 (.bool false) 1 rfl Try.underlying120 info4 rfl (by decide) (by decide) (.slice B7 Cs.length m7) Cs [zb] A5 1 c5 (fun _ => True) (fun _ => False) rfl rfl HC.out.rB (r_readsM H5.out) (fun _ _ h => h) (fun _ h => h.elim) (fun _ _ => trivial) HC.out.bel HC.out.bel.size (by have := HCL.out; omega) ?_
                  intro v6_ w6_ hR hB hg hat
                  have HV := Aside0.mk (r_other HV.out HC.out.rB (by decide) hg)
                  rw [← HCX.out] at hR
                  have HC := Aside0.mk (HC.out.appB hR hg hB)
                  clear hR hB hg hat
                  refine hK.out _ _ ⟨((blk_cell HC.out.bk 1).trans rfl), ((blk_cell HC.out.bk 2).trans rfl)⟩ (fun hHeld => ?_)
                  clear hK K
                  refine norm_ (a' := ?_) ?_ ?_
                  rotate_left
                  · show Act.put _ (some 71) _ = _
                    simp only [Act.put, List.setIfInBounds_toArray, List.set_cons_zero, List.set_cons_succ, i64_w, i32_w]
                    rfl
                  refine pure_ (i := 12) (N := some 77) (v := ?_) (a' := ?_) #[true, true, true, true, true, true, true, true, true, true, false, false, true, false, false, false] rfl rfl (by kernel_rfl) (fun _ _ _ h => h) (Or.inl ⟨by rfl, ?_⟩) ?_ ?_
                  rotate_left
                  · intro w'
                    go_simp
                    with_reducible rfl
                  rotate_left
                  · simp only [Act.put, List.setIfInBounds_toArray, List.set_cons_zero, List.set_cons_succ, i64_w, i32_w]
                    rfl
                  refine one_ (i := 10) (N := some 75) #[true, true, true, true, true, true, true, true, true, true, true, false, true, false, false, false] rfl rfl (by kernel_rfl) (by decide) (fun K hK => ?_)
                  refine Kd.R_lit_step (Kd.slice 38 k38) (w0 := w) w.heap.size 32 (by rfl) (N := 75) rfl (xs := [at_]) (inner := [.slice A12 at_.length n12]) (ok := fun _ => True) (okp := fun _ => True) ?hr ?hp (fun _ hk => hk) trivial HC.out.bel HC.out.bel.size (by simp) ?_
                  case hr => first | (go_simp; done) | (go_simp; rfl)
                  case hp => exact Reps.one ⟨_, rfl, HV.out⟩ (Reps.none _ _)
                  intro v10_ w10_ hR hB hg hn
                  have HC := Aside0.mk (HC.out.made hg hB)
                  obtain ⟨A10, c10, e10⟩ : ∃ A c, v10_ = .slice A 1 c := Kd.R_slice hR
                  subst e10
                  have HV := Aside0.mk hR
                  clear hR hB hg hn
                  refine hK.out _ _ ⟨((blk_cell HC.out.bk 1).trans rfl), ((blk_cell HC.out.bk 2).trans rfl)⟩ (fun hHeld => ?_)
                  clear hK K
                  refine norm_ (a' := ?_) ?_ ?_
                  rotate_left
                  · show Act.put _ (some 75) _ = _
                    simp only [Act.put, List.setIfInBounds_toArray, List.set_cons_zero, List.set_cons_succ, i64_w, i32_w]
                    rfl
                  exact norm_ (by simp only [putAll, Act.put, List.setIfInBounds_toArray, List.set_cons_zero, List.set_cons_succ]) (hCont (.slice A5 1 c5, v6_, .slice A10 1 c10) _ ⟨hHeld, HC.out, HV.out⟩)
                · skip
                  refine Kd.R_lit_step (Kd.slice 38 k38) (w0 := w) w.heap.size 32 (by rfl) (N := 75) rfl (xs := [at_]) (inner := [.slice A12 at_.length n12]) (ok := fun _ => True) (okp := fun _ => True) ?hr ?hp (fun _ hk => hk) trivial HC.out.bel HC.out.bel.size (by simp) ?_
                  case hr => first | (go_simp; done) | (go_simp; rfl)
                  case hp => exact Reps.one ⟨_, rfl, HV.out⟩ (Reps.none _ _)
                  intro v10_ w10_ hR hB hg hn
                  have HC := Aside0.mk (HC.out.made hg hB)
                  have H5 := Aside0.mk (Kd.R_grown H5.out hg (fun _ _ => by simp))
                  obtain ⟨A10, c10, e10⟩ : ∃ A c, v10_ = .slice A 1 c := Kd.R_slice hR
                  subst e10
                  have HV := Aside0.mk hR
                  clear hR hB hg hn
                  refine hK.out _ _ ⟨((blk_cell HC.out.bk 1).trans rfl), ((blk_cell HC.out.bk 2).trans rfl)⟩ (fun hHeld => ?_)
                  clear hK K
                  refine norm_ (a' := ?_) ?_ ?_
                  rotate_left
                  · show Act.put _ (some 75) _ = _
                    simp only [Act.put, List.setIfInBounds_toArray, List.set_cons_zero, List.set_cons_succ, i64_w, i32_w]
                    rfl
                  refine one_ (i := 6) (N := some 71) #[true, true, true, true, true, true, true, true, true, true, true, false, false, false, false, false] rfl rfl (by kernel_rfl) (by decide) (fun K hK => ?_)
                  refine Kd.R_append_rows_step Kd.bool (w0 := w) w.heap.size (by rfl) (.tmp 66) (.tmp 70) 120 4 (.bool false) 1 rfl Try.underlying120 info4 rfl (by decide) (by decide) (.slice B7 Cs.length m7) Cs [zb] A5 1 c5 (fun _ => True) (fun _ => False) rfl rfl HC.out.rB (r_readsM H5.out) (fun _ _ h => h) (fun _ h => h.elim) (fun _ _ => trivial) HC.out.bel HC.out.bel.size (by have := HCL.out; omega) ?_
                  intro v6_ w6_ hR hB hg hat
                  have HV := Aside0.mk (r_other HV.out HC.out.rB (by decide) hg)
                  rw [← HCX.out] at hR
                  have HC := Aside0.mk (HC.out.appB hR hg hB)
                  clear hR hB hg hat
                  refine hK.out _ _ ⟨((blk_cell HC.out.bk 1).trans rfl), ((blk_cell HC.out.bk 2).trans rfl)⟩ (fun hHeld => ?_)
                  clear hK K
                  refine norm_ (a' := ?_) ?_ ?_
                  rotate_left
                  · show Act.put _ (some 71) _ = _
                    simp only [Act.put, List.setIfInBounds_toArray, List.set_cons_zero, List.set_cons_succ, i64_w, i32_w]
                    rfl
                  refine pure_ (i := 12) (N := some 77) (v := ?_) (a' := ?_) #[true, true, true, true, true, true, true, true, true, true, true, false, true, false, false, false] rfl rfl (by kernel_rfl) (fun _ _ _ h => h) (Or.inl ⟨by rfl, ?_⟩) ?_ ?_
                  rotate_left
                  · intro w'
                    go_simp
                    with_reducible rfl
                  rotate_left
                  · simp only [Act.put, List.setIfInBounds_toArray, List.set_cons_zero, List.set_cons_succ, i64_w, i32_w]
                    rfl
                  exact norm_ (by simp only [putAll, Act.put, List.setIfInBounds_toArray, List.set_cons_zero, List.set_cons_succ]) (hCont (.slice A5 1 c5, v6_, .slice A10 1 c10) _ ⟨hHeld, HC.out, HV.out⟩)
              · skip
                refine Kd.R_lit_step (Kd.slice 38 k38) (w0 := w) w.heap.size 32 (by rfl) (N := 75) rfl (xs := [at_]) (inner := [.slice A12 at_.length n12]) (ok := fun _ => True) (okp := fun _ => True) ?hr ?hp (fun _ hk => hk) trivial HC.out.bel HC.out.bel.size (by simp) ?_
                case hr => first | (go_simp; done) | (go_simp; rfl)
                case hp => exact Reps.one ⟨_, rfl, HV.out⟩ (Reps.none _ _)
                intro v10_ w10_ hR hB hg hn
                have HC := Aside0.mk (HC.out.made hg hB)
                obtain ⟨A10, c10, e10⟩ : ∃ A c, v10_ = .slice A 1 c := Kd.R_slice hR
                subst e10
                have HV := Aside0.mk hR
                clear hR hB hg hn
                refine hK.out _ _ ⟨((blk_cell HC.out.bk 1).trans rfl), ((blk_cell HC.out.bk 2).trans rfl)⟩ (fun hHeld => ?_)
                clear hK K
                refine norm_ (a' := ?_) ?_ ?_
                rotate_left
                · show Act.put _ (some 75) _ = _
                  simp only [Act.put, List.setIfInBounds_toArray, List.set_cons_zero, List.set_cons_succ, i64_w, i32_w]
                  rfl
                refine one_ (i := 5) (N := some 70) #[true, true, true, true, true, true, false, true, true, true, true, false, false, false, false, false] rfl rfl (by kernel_rfl) (by decide) (fun K hK => ?_)
                refine Kd.R_lit_step Kd.bool (w0 := w) w.heap.size 4 (by rfl) (N := 70) rfl (xs := [zb]) (inner := [.bool zb]) (ok := fun _ => True) (okp := fun _ => True) ?hr ?hp (fun _ hk => hk) trivial HC.out.bel HC.out.bel.size (by simp) ?_
                case hr => first | (go_simp; done) | (go_simp; rfl)
                case hp => exact Reps.one rfl (Reps.none _ _)
                intro v5_ w5_ hR hB hg hn
                have HC := Aside0.mk (HC.out.made hg hB)
                have HV := Aside0.mk (Kd.R_grown HV.out hg (fun _ _ => by simp))
                obtain ⟨A5, c5, e5⟩ : ∃ A c, v5_ = .slice A 1 c := Kd.R_slice hR
                subst e5
                have H5 := Aside0.mk hR
                clear hR hB hg hn
                refine hK.out _ _ ⟨((blk_cell HC.out.bk 1).trans rfl), ((blk_cell HC.out.bk 2).trans rfl)⟩ (fun hHeld => ?_)
                clear hK K
                refine norm_ (a' := ?_) ?_ ?_
                rotate_left
                · show Act.put _ (some 70) _ = _
                  simp only [Act.put, List.setIfInBounds_toArray, List.set_cons_zero, List.set_cons_succ, i64_w, i32_w]
                  rfl
                refine one_ (i := 6) (N := some 71) #[true, true, true, true, true, true, true, true, true, true, true, false, false, false, false, false] rfl rfl (by kernel_rfl) (by decide) (fun K hK => ?_)
                refine Kd.R_append_rows_step Kd.bool (w0 := w) w.heap.size (by rfl) (.tmp 66) (.tmp 70) 120 4 (.bool false) 1 rfl Try.underlying120 info4 rfl (by decide) (by decide) (.slice B7 Cs.length m7) Cs [zb] A5 1 c5 (fun _ => True) (fun _ => False) rfl rfl HC.out.rB (r_readsM H5.out) (fun _ _ h => h) (fun _ h => h.elim) (fun _ _ => trivial) HC.out.bel HC.out.bel.size (by have := HCL.out; omega) ?_
                intro v6_ w6_ hR hB hg hat
                have HV := Aside0.mk (r_other HV.out HC.out.rB (by decide) hg)
                rw [← HCX.out] at hR
                have HC := Aside0.mk (HC.out.appB hR hg hB)
                clear hR hB hg hat
                refine hK.out _ _ ⟨((blk_cell HC.out.bk 1).trans rfl), ((blk_cell HC.out.bk 2).trans rfl)⟩ (fun hHeld => ?_)
                clear hK K
                refine norm_ (a' := ?_) ?_ ?_
                rotate_left
                · show Act.put _ (some 71) _ = _
                  simp only [Act.put, List.setIfInBounds_toArray, List.set_cons_zero, List.set_cons_succ, i64_w, i32_w]
                  rfl
                refine pure_ (i := 12) (N := some 77) (v := ?_) (a' := ?_) #[true, true, true, true, true, true, true, true, true, true, true, false, true, false, false, false] rfl rfl (by kernel_rfl) (fun _ _ _ h => h) (Or.inl ⟨by rfl, ?_⟩) ?_ ?_
                rotate_left
                · intro w'
                  go_simp
                  with_reducible rfl
                rotate_left
                · simp only [Act.put, List.setIfInBounds_toArray, List.set_cons_zero, List.set_cons_succ, i64_w, i32_w]
                  rfl
                exact norm_ (by simp only [putAll, Act.put, List.setIfInBounds_toArray, List.set_cons_zero, List.set_cons_succ]) (hCont (.slice A5 1 c5, v6_, .slice A10 1 c10) _ ⟨hHeld, HC.out, HV.out⟩)
            · skip
              refine Kd.R_lit_step (Kd.slice 38 k38) (w0 := w) w.heap.size 32 (by rfl) (N := 75) rfl (xs := [at_]) (inner := [.slice A12 at_.length n12]) (ok := fun _ => True) (okp := fun _ => True) ?hr ?hp (fun _ hk => hk) trivial HC.out.bel HC.out.bel.size (by simp) ?_
              case hr => first | (go_simp; done) | (go_simp; rfl)
              case hp => exact Reps.one ⟨_, rfl, HV.out⟩ (Reps.none _ _)
              intro v10_ w10_ hR hB hg hn
              have HC := Aside0.mk (HC.out.made hg hB)
              obtain ⟨A10, c10, e10⟩ : ∃ A c, v10_ = .slice A 1 c := Kd.R_slice hR
              subst e10
              have HV := Aside0.mk hR
              clear hR hB hg hn
              refine hK.out _ _ ⟨((blk_cell HC.out.bk 1).trans rfl), ((blk_cell HC.out.bk 2).trans rfl)⟩ (fun hHeld => ?_)
              clear hK K
              refine norm_ (a' := ?_) ?_ ?_
              rotate_left
              · show Act.put _ (some 75) _ = _
                simp only [Act.put, List.setIfInBounds_toArray, List.set_cons_zero, List.set_cons_succ, i64_w, i32_w]
                rfl
              refine one_ (i := 3) (N := some 68) #[true, true, true, true, false, false, false, true, true, true, true, false, false, false, false, false] rfl rfl (by kernel_rfl) (by decide) (fun K hK => ?_)
              refine goes_ Try.func70 (by kernel_rfl) rfl #[.pointer (some ⟨gd, 0, none⟩), .int .i64 8] (by rfl) rfl rfl (by simp only [List.map_toArray, List.map_cons, List.map_nil]; rfl) ?_
              with_reducible refine (HC.out.roll_calls (by have := HU2.out; have := HIM.out; have := HM.out; omega) HZ1.out).mono ?_
              rintro e w3_ ⟨rfl, hJ, hfr, hsz⟩
              refine ⟨_, rfl, ?_⟩
              obtain ⟨csd, hgd⟩ := HC.out.dice.typed
              have HV := Aside0.mk (r_keep HV.out hgd (by decide) hfr)
              have HC := Aside0.mk hJ
              clear hJ hfr hsz hgd
              refine hK.out _ _ ⟨((blk_cell HC.out.bk 1).trans rfl), ((blk_cell HC.out.bk 2).trans rfl)⟩ (fun hHeld => ?_)
              clear hK K
              refine norm_ (a' := ?_) ?_ ?_
              rotate_left
              · show Act.put _ (some 68) _ = _
                simp only [Act.put, List.setIfInBounds_toArray, List.set_cons_zero, List.set_cons_succ, i64_w, i32_w]
                rfl
              refine pure_ (i := 4) (N := some 69) (v := ?_) (a' := ?_) #[true, true, true, true, true, false, false, true, true, true, true, false, false, false, false, false] rfl rfl (by kernel_rfl) (fun _ _ _ h => h) (Or.inl ⟨by rfl, ?_⟩) ?_ ?_
              rotate_left
              · intro w'
                go_simp
                with_reducible rfl
              rotate_left
              · simp only [Act.put, List.setIfInBounds_toArray, List.set_cons_zero, List.set_cons_succ, i64_w, i32_w]
                rfl
              refine one_ (i := 5) (N := some 70) #[true, true, true, true, true, true, false, true, true, true, true, false, false, false, false, false] rfl rfl (by kernel_rfl) (by decide) (fun K hK => ?_)
              refine Kd.R_lit_step Kd.bool (w0 := w) w.heap.size 4 (by rfl) (N := 70) rfl (xs := [zb]) (inner := [.bool zb]) (ok := fun _ => True) (okp := fun _ => True) ?hr ?hp (fun _ hk => hk) trivial HC.out.bel HC.out.bel.size (by simp) ?_
              case hr => first | (go_simp; done) | (go_simp; rfl)
              case hp => exact Reps.one rfl (Reps.none _ _)
              intro v5_ w5_ hR hB hg hn
              have HC := Aside0.mk (HC.out.made hg hB)
              have HV := Aside0.mk (Kd.R_grown HV.out hg (fun _ _ => by simp))
              obtain ⟨A5, c5, e5⟩ : ∃ A c, v5_ = .slice A 1 c := Kd.R_slice hR
              subst e5
              have H5 := Aside0.mk hR
              clear hR hB hg hn
              refine hK.out _ _ ⟨((blk_cell HC.out.bk 1).trans rfl), ((blk_cell HC.out.bk 2).trans rfl)⟩ (fun hHeld => ?_)
              clear hK K
              refine norm_ (a' := ?_) ?_ ?_
              rotate_left
              · show Act.put _ (some 70) _ = _
                simp only [Act.put, List.setIfInBounds_toArray, List.set_cons_zero, List.set_cons_succ, i64_w, i32_w]
                rfl
              refine one_ (i := 6) (N := some 71) #[true, true, true, true, true, true, true, true, true, true, true, false, false, false, false, false] rfl rfl (by kernel_rfl) (by decide) (fun K hK => ?_)
              refine Kd.R_append_rows_step Kd.bool (w0 := w) w.heap.size (by rfl) (.tmp 66) (.tmp 70) 120 4 (.bool false) 1 rfl Try.underlying120 info4 rfl (by decide) (by decide) (.slice B7 Cs.length m7) Cs [zb] A5 1 c5 (fun _ => True) (fun _ => False) rfl rfl HC.out.rB (r_readsM H5.out) (fun _ _ h => h) (fun _ h => h.elim) (fun _ _ => trivial) HC.out.bel HC.out.bel.size (by have := HCL.out; omega) ?_
              intro v6_ w6_ hR hB hg hat
              have HV := Aside0.mk (r_other HV.out HC.out.rB (by decide) hg)
              rw [← HCX.out] at hR
              have HC := Aside0.mk (HC.out.appB hR hg hB)
              clear hR hB hg hat
              refine hK.out _ _ ⟨((blk_cell HC.out.bk 1).trans rfl), ((blk_cell HC.out.bk 2).trans rfl)⟩ (fun hHeld => ?_)
              clear hK K
              refine norm_ (a' := ?_) ?_ ?_
              rotate_left
              · show Act.put _ (some 71) _ = _
                simp only [Act.put, List.setIfInBounds_toArray, List.set_cons_zero, List.set_cons_succ, i64_w, i32_w]
                rfl
              refine pure_ (i := 12) (N := some 77) (v := ?_) (a' := ?_) #[true, true, true, true, true, true, true, true, true, true, true, false, true, false, false, false] rfl rfl (by kernel_rfl) (fun _ _ _ h => h) (Or.inl ⟨by rfl, ?_⟩) ?_ ?_
              rotate_left
              · intro w'
                go_simp
                with_reducible rfl
              rotate_left
              · simp only [Act.put, List.setIfInBounds_toArray, List.set_cons_zero, List.set_cons_succ, i64_w, i32_w]
                rfl
              exact norm_ (by simp only [putAll, Act.put, List.setIfInBounds_toArray, List.set_cons_zero, List.set_cons_succ]) (hCont (.slice A5 1 c5, v6_, .slice A10 1 c10) _ ⟨hHeld, HC.out, HV.out⟩)
          rintro ⟨v70_, v71_, v75_⟩ w12_ ⟨hS_, hC_, hV_⟩
          replace hC_ : ChS w ga gd raw (rollU raw (rollU raw (rollU raw u))) Ax Cx Ts (.slice A7 Ax.length n7) (.slice B7 Cs.length m7) (.slice D7 Ts.length l7) (.slice A7 Ax.length n7) (v71_) (.slice D7 Ts.length l7) (.slice none 0 0) w12_ := hC_
          replace hV_ : Kd.R (Kd.slice 38 k38) 32 w12_ w.heap.size (fun _ => True) v75_ [at_] := hV_
          clear HC HV
          obtain ⟨A10, c10, e10⟩ : ∃ A c, v75_ = .slice A 1 c := Kd.R_slice hV_
          subst e10
          obtain ⟨A6, n6, e6⟩ := Kd.R_slice hC_.rB
          subst e6
          have HC := Aside0.mk hC_
          have HV := Aside0.mk hV_
          have hHeld : w12_.cell? ⟨ga, 1, none⟩ = some (.slice B7 Cs.length m7) ∧ w12_.cell? ⟨ga, 2, none⟩ = some (.slice D7 Ts.length l7) := hS_
          clear hS_ hC_ hV_
          refine norm_ (a' := ?_) ?_ ?_
          rotate_left
          · simp only [putAll, Act.put, List.setIfInBounds_toArray, List.set_cons_zero, List.set_cons_succ]
            rfl
          refine one_ (i := 11) (N := some 76) #[true, true, true, true, true, true, true, true, true, true, true, true, true, false, false, false] rfl rfl (by kernel_rfl) (by decide) (fun K hK => ?_)
          refine Kd.R_append_rows_step (Kd.slice 38 k38) (w0 := w) w.heap.size (by rfl) (.tmp 73) (.tmp 75) 121 32 (.slice none 0 0) 24 rfl Try.underlying121 info32 rfl (by decide) (by decide) (.slice D7 Ts.length l7) Ts [at_] A10 1 c10 (fun _ => True) (fun k => (True ∧ some k ≠ (Value.slice A10 1 c10).ownBlock) ∧ some k ≠ (Value.slice D7 Ts.length l7).ownBlock) rfl rfl HC.out.rC (r_readsM HV.out) (fun _ _ h => m_apart h HC.out.rC (by decide)) (fun _ hk => ⟨trivial, hk.2⟩) (fun _ _ => trivial) HC.out.bel HC.out.bel.size (by have := HCL.out; omega) ?_
          intro v11_ w11_ hR hB hg hat
          rw [← HTX.out] at hR
          obtain ⟨A11, n11, e11⟩ := Kd.R_slice hR
          subst e11
          have HC := Aside0.mk (HC.out.appC hR hg hB)
          have hd1 : w11_.cell? ⟨ga, 1, none⟩ = some _ := (blk_cell HC.out.bk 1).trans rfl
          have hf1 := blk_frozen HC.out.bk 1
          clear hR hB hg hat
          refine hK.out _ _ ⟨((blk_cell HC.out.bk 1).trans rfl), ((blk_cell HC.out.bk 2).trans rfl)⟩ (fun hHeld => ?_)
          clear hK K
          refine norm_ (a' := ?_) ?_ ?_
          rotate_left
          · show Act.put _ (some 76) _ = _
            simp only [Act.put, List.setIfInBounds_toArray, List.set_cons_zero, List.set_cons_succ, i64_w, i32_w]
            rfl
          refine last_ (i := 13) (N := none) #[true, true, true, true, true, true, true, true, true, true, true, true, true, true, false, false] rfl rfl (by kernel_rfl) (by decide) (fun K hK => ?_)
          refine skip_ (w1 := ?_) (by rfl) rfl ?_ ?_
          rotate_left
          · go_simp
            rfl
          have HC := Aside0.mk (HC.out.set 1 (.slice A6 Cx.length n6) (.slice A7 Ax.length n7) (.slice A6 Cx.length n6) (.slice D7 Ts.length l7) rfl)
          have hd2 := (blk_cell HC.out.bk 2).trans rfl
          have hf2 := blk_frozen HC.out.bk 2
          refine hK.out _ _ ?_
          clear hK K
          refine pure_ (i := 14) (N := some 78) (v := ?_) (a' := ?_) #[true, true, true, true, true, true, true, true, true, true, true, true, true, true, true, false] rfl rfl (by kernel_rfl) (fun _ _ _ h => h) (Or.inl ⟨by rfl, ?_⟩) ?_ ?_
          rotate_left
          · intro w'
            go_simp
            with_reducible rfl
          rotate_left
          · simp only [Act.put, List.setIfInBounds_toArray, List.set_cons_zero, List.set_cons_succ, i64_w, i32_w]
            rfl
          refine last_ (i := 15) (N := none) #[true, true, true, true, true, true, true, true, true, true, true, true, true, true, true, true] rfl rfl (by kernel_rfl) (by decide) (fun K hK => ?_)
          refine skip_ (w1 := ?_) (by rfl) rfl ?_ ?_
          rotate_left
          · go_simp
            rfl
          have HC := Aside0.mk (HC.out.set 2 (.slice A11 Tx.length n11) (.slice A7 Ax.length n7) (.slice A6 Cx.length n6) (.slice A11 Tx.length n11) rfl)
          refine hK.out _ _ ?_
          clear hK K
          refine done_ (by kernel_rfl) ?_
          have wk := HWI.out
          go_wp2
          go_roundg gl
          case measure => omega
          case rel => exact ⟨i + 1, _, Ax, Cx, Tx, _, _, _, by simp [wk], HIG, HC, HLL⟩
end Go.Proofs.Ytdgemabmmomebaa.PDelta
end
section
namespace Go.Proofs.Ytdgemabmmomebaa.PDelta
open Go.RowKit Go.Proofs.YtdgemabmmomebaaW.PrintWords Go.Proofs.YtdgemabmmomebaaW.PrintLast Go.Proofs.YtdgemabmmomebaaW.PrintMore
set_option linter.unusedVariables false
set_option linter.unusedSimpArgs false
def back (t : List S38) (x : S84) : List S38 := mrg changeE (mrg rawE x.f2 t) x.f2
def un : List S84 → List Un → List Un
  | _, [] => []
  | f, .add _ :: u => .cut :: un f u
  | [], .keep _ :: u => un [] u
  | x :: f, .keep t :: u => .keep (back t x) :: un f u
  | [], .cut :: u => un [] u
  | x :: f, .cut :: u => .add x :: un f u
theorem un_keeps (t : List S38) (u : List Un) : ∀ (n : Nat) (f : List S84), n ≤ f.length → un f (List.replicate n (.keep t) ++ u) = (f.take n).map (fun x => .keep (back t x)) ++ un (f.drop n) u
  | 0, f, _ => by simp
  | n + 1, [], h => by simp at h
  | n + 1, x :: f, h => by rw [List.replicate_succ, List.cons_append, un, un_keeps t u n f (by simpa using h)]; simp
theorem un_cuts (u : List Un) : ∀ (n : Nat) (f : List S84), n ≤ f.length → un f (List.replicate n .cut ++ u) = (f.take n).map .add ++ un (f.drop n) u
  | 0, f, _ => by simp
  | n + 1, [], h => by simp at h
  | n + 1, x :: f, h => by rw [List.replicate_succ, List.cons_append, un, un_cuts u n f (by simpa using h)]; simp
theorem un_adds (f : List S84) (u : List Un) : ∀ l : List S84, un f (l.map .add ++ u) = List.replicate l.length .cut ++ un f u
  | [] => by simp
  | x :: l => by rw [List.map_cons, List.cons_append, un, un_adds f u l]; simp [List.replicate_succ]
theorem un_len : ∀ (u : List Un) (f : List S84), (un f u).length ≤ u.length
  | [], f => by cases f <;> simp [un]
  | .add x :: u, f => by simp only [un, List.length_cons]; have := un_len u f; omega
  | .keep t :: u, [] => by simp only [un, List.length_cons]; have := un_len u []; omega
  | .keep t :: u, x :: f => by simp only [un, List.length_cons]; have := un_len u f; omega
  | .cut :: u, [] => by simp only [un, List.length_cons]; have := un_len u []; omega
  | .cut :: u, x :: f => by simp only [un, List.length_cons]; have := un_len u f; omega
def UOK : Un → Prop
  | .keep t => VA true t
  | .cut => True
  | .add x => ElemOK x
theorem app_back {t : List S38} {x : S84} (hx : ElemOK x) (ht : VA true t) : app (back t x) (app t x) = x := by
  unfold app back
  simp only
  rw [lead_back (va_raw hx.2 ht) hx.2]
theorem app_ok {t : List S38} {x : S84} (hx : ElemOK x) (ht : VA true t) : ElemOK (app t x) := ⟨hx.1, va_raw hx.2 ht⟩
theorem run_back : ∀ (u : List Un) (f : List S84), nold u = f.length → (∀ x ∈ f, ElemOK x) → (∀ a ∈ u, UOK a) → run (run f u).1 (un f u) = (f, [])
  | [], f, h, _, _ => by
    have : f = [] := List.eq_nil_of_length_eq_zero (by rw [← h]; rfl)
    subst this
    rfl
  | .add x :: u, f, h, hf, hu => by rw [run, un, run]; exact run_back u f h hf (fun a ha => hu a (List.mem_cons_of_mem _ ha))
  | .keep t :: u, [], h, _, _ => by simp [nold] at h
  | .cut :: u, [], h, _, _ => by simp [nold] at h
  | .keep t :: u, x :: f, h, hf, hu => by
    simp only [nold, List.length_cons, Nat.add_right_cancel_iff] at h
    have := run_back u f h (fun y hy => hf y (List.mem_cons_of_mem _ hy)) (fun a ha => hu a (List.mem_cons_of_mem _ ha))
    rw [run, un, run, this, app_back (hf x List.mem_cons_self) (hu _ List.mem_cons_self)]
  | .cut :: u, x :: f, h, hf, hu => by
    simp only [nold, List.length_cons, Nat.add_right_cancel_iff] at h
    have := run_back u f h (fun y hy => hf y (List.mem_cons_of_mem _ hy)) (fun a ha => hu a (List.mem_cons_of_mem _ ha))
    rw [run, un, run, this]
theorem un_counts : ∀ (u : List Un) (f : List S84), nold u = f.length → nold (un f u) = nnew u ∧ nnew (un f u) = nold u
  | [], f, h => by cases f <;> simp [un, nold, nnew]
  | .add x :: u, f, h => by have := un_counts u f h; simp only [un, nold, nnew]; omega
  | .keep t :: u, [], h => by simp [nold] at h
  | .cut :: u, [], h => by simp [nold] at h
  | .keep t :: u, x :: f, h => by
    simp only [nold, List.length_cons, Nat.add_right_cancel_iff] at h
    have := un_counts u f h
    simp only [un, nold, nnew]; omega
  | .cut :: u, x :: f, h => by
    simp only [nold, List.length_cons, Nat.add_right_cancel_iff] at h
    have := un_counts u f h
    simp only [un, nold, nnew]; omega
theorem run_len : ∀ (u : List Un) (f : List S84), nold u = f.length → (run f u).1.length = nnew u
  | [], f, h => by simp [run, nnew]
  | .add x :: u, f, h => by simp only [run, nnew, List.length_cons, run_len u f h]
  | .keep t :: u, [], h => by simp [nold] at h
  | .cut :: u, [], h => by simp [nold] at h
  | .keep t :: u, x :: f, h => by
    simp only [nold, List.length_cons, Nat.add_right_cancel_iff] at h
    simp only [run, nnew, List.length_cons, run_len u f h]
  | .cut :: u, x :: f, h => by
    simp only [nold, List.length_cons, Nat.add_right_cancel_iff] at h
    simp only [run, nnew, run_len u f h]
theorem run_ok : ∀ (u : List Un) (f : List S84), (∀ x ∈ f, ElemOK x) → (∀ a ∈ u, UOK a) → ∀ x ∈ (run f u).1, ElemOK x
  | [], f, _, _, x, hx => by simp [run] at hx
  | .add y :: u, f, hf, hu, x, hx => by
    simp only [run, List.mem_cons] at hx
    rcases hx with rfl | hx
    · exact hu _ List.mem_cons_self
    · exact run_ok u f hf (fun a ha => hu a (List.mem_cons_of_mem _ ha)) x hx
  | .keep t :: u, [], hf, hu, x, hx => run_ok u [] hf (fun a ha => hu a (List.mem_cons_of_mem _ ha)) x (by simpa [run] using hx)
  | .cut :: u, [], hf, hu, x, hx => run_ok u [] hf (fun a ha => hu a (List.mem_cons_of_mem _ ha)) x (by simpa [run] using hx)
  | .keep t :: u, y :: f, hf, hu, x, hx => by
    simp only [run, List.mem_cons] at hx
    rcases hx with rfl | hx
    · exact app_ok (hf y List.mem_cons_self) (hu _ List.mem_cons_self)
    · exact run_ok u f (fun z hz => hf z (List.mem_cons_of_mem _ hz)) (fun a ha => hu a (List.mem_cons_of_mem _ ha)) x hx
  | .cut :: u, y :: f, hf, hu, x, hx => run_ok u f (fun z hz => hf z (List.mem_cons_of_mem _ hz)) (fun a ha => hu a (List.mem_cons_of_mem _ ha)) x (by simpa [run] using hx)
def UAt (A : Nat) : Un → Prop
  | .keep t => t.length ≤ A
  | .cut => True
  | .add x => x.f2.length ≤ A
theorem run_att {B A : Nat} : ∀ (u : List Un) (f : List S84), (∀ x ∈ f, x.f2.length ≤ B) → (∀ a ∈ u, UAt A a) → ∀ x ∈ (run f u).1, x.f2.length ≤ B + A
  | [], f, _, _, x, hx => by simp [run] at hx
  | .add y :: u, f, hf, hu, x, hx => by
    simp only [run, List.mem_cons] at hx
    rcases hx with rfl | hx
    · have : x.f2.length ≤ A := hu (.add x) List.mem_cons_self
      omega
    · exact run_att u f hf (fun a ha => hu a (List.mem_cons_of_mem _ ha)) x hx
  | .keep t :: u, [], hf, hu, x, hx => run_att u [] hf (fun a ha => hu a (List.mem_cons_of_mem _ ha)) x (by simpa [run] using hx)
  | .cut :: u, [], hf, hu, x, hx => run_att u [] hf (fun a ha => hu a (List.mem_cons_of_mem _ ha)) x (by simpa [run] using hx)
  | .keep t :: u, y :: f, hf, hu, x, hx => by
    simp only [run, List.mem_cons] at hx
    rcases hx with rfl | hx
    · have h1 : t.length ≤ A := hu (.keep t) List.mem_cons_self
      have h2 := hf y List.mem_cons_self
      have h3 := mrg_len rawE y.f2 t
      show (mrg rawE y.f2 t).length ≤ _
      omega
    · exact run_att u f (fun z hz => hf z (List.mem_cons_of_mem _ hz)) (fun a ha => hu a (List.mem_cons_of_mem _ ha)) x hx
  | .cut :: u, y :: f, hf, hu, x, hx => run_att u f (fun z hz => hf z (List.mem_cons_of_mem _ hz)) (fun a ha => hu a (List.mem_cons_of_mem _ ha)) x (by simpa [run] using hx)
theorem us_uok {s : S70} (h : StepOK s) : ∀ a ∈ us s, UOK a := by
  rcases h with h | h | h
  · rw [us_keep h.1]; intro a ha; rw [List.eq_of_mem_replicate ha]; exact h.2.2.2.2
  · rw [us_add h.1]; intro a ha; obtain ⟨x, hx, rfl⟩ := List.mem_map.1 ha; exact pok_mem.1 h.2.2.2.2 x hx
  · rw [us_cut h.1]; intro a ha; rw [List.eq_of_mem_replicate ha]; exact trivial
theorem units_uok {d : List S70} (h : ∀ s ∈ d, StepOK s) : ∀ a ∈ units d, UOK a := fun a ha => by
  obtain ⟨s, hs, ha⟩ := List.mem_flatMap.1 ha
  exact us_uok (h s hs) a ha
theorem us_uat {A : Nat} {s : S70} (h : StepOK s) (ht : SAt A s) : ∀ a ∈ us s, UAt A a := by
  rcases h with h | h | h
  · rw [us_keep h.1]; intro a ha; rw [List.eq_of_mem_replicate ha]; exact ht.1
  · rw [us_add h.1]; intro a ha; obtain ⟨x, hx, rfl⟩ := List.mem_map.1 ha; exact ht.2 x hx
  · rw [us_cut h.1]; intro a ha; rw [List.eq_of_mem_replicate ha]; exact trivial
theorem units_uat {A : Nat} {d : List S70} (h : ∀ s ∈ d, StepOK s) (ht : ∀ s ∈ d, SAt A s) : ∀ a ∈ units d, UAt A a := fun a ha => by
  obtain ⟨s, hs, ha⟩ := List.mem_flatMap.1 ha
  exact us_uat (h s hs) (ht s hs) a ha
theorem undoIn_spec {A B : Nat} (t : List S38) (hv : VA true t) (htl : t.length ≤ B) (hAB : 3 * B ≤ A) (hA : A ≤ 1073741824) : ∀ (l : List S84) (s : WD), WF A s → (∀ x ∈ l, ElemOK x) → (∀ x ∈ l, x.f2.length ≤ B) → (wu s).length + l.length ≤ 1073741824 →
    ∃ s', Ev (fun k => undoIn k t l s) s' ∧ WF A s' ∧ wu s' = wu s ++ l.map (fun x => .keep (back t x))
  | [], s, h, _, _, _ => ⟨s, Ev.now s, h, by simp⟩
  | x :: l, s, h, ho, hb, hl => by
    rw [List.length_cons] at hl
    have hx := ho x List.mem_cons_self
    have hxb := hb x List.mem_cons_self
    have h1 := mrg_len rawE x.f2 t
    have h2 := mrg_len changeE (mrg rawE x.f2 t) x.f2
    have hvr := va_raw hx.2 hv
    obtain ⟨s1, e1, w1, u1⟩ := keep_spec 1 (back t x) h (va_change hvr hx.2) (by show (mrg changeE (mrg rawE x.f2 t) x.f2).length ≤ A; omega) hA (by omega) (by omega)
    have u1' : wu s1 = wu s ++ [.keep (back t x)] := u1
    obtain ⟨s2, e2, w2, u2⟩ := undoIn_spec t hv htl hAB hA l s1 w1 (fun y hy => ho y (List.mem_cons_of_mem _ hy)) (fun y hy => hb y (List.mem_cons_of_mem _ hy)) (by rw [u1', List.length_append, List.length_singleton]; omega)
    refine ⟨s2, Ev.congr (fun k => by rw [undoIn, raw_f (by omega) (by omega), Option.bind_some, change_f (by omega) (by omega), Option.bind_some]; rfl) (Ev.bind e1 e2), w2, by rw [u2, u1', List.append_assoc]; rfl⟩
theorem undo_spec {A B : Nat} (hAB : 3 * B ≤ A) (hA : A ≤ 1073741824) : ∀ (d : List S70) (f : List S84) (s : WD), WF A s → (∀ x ∈ d, StepOK x) → (∀ x ∈ d, SAt B x) → (∀ x ∈ f, ElemOK x) → (∀ x ∈ f, x.f2.length ≤ B) → nold (units d) ≤ f.length → (wu s).length + (units d).length ≤ 1073741824 →
    ∃ o, Ev (fun k => undoL k d f s) (o, 0) ∧ FO A o ∧ E (units o) (wu s ++ un f (units d))
  | [], f, s, h, _, _, _, _, _, hl => by
    obtain ⟨o, e, fo, eu⟩ := done_spec h hA (by simp [units_nil] at hl; omega)
    refine ⟨o, e, fo, ?_⟩
    rw [eu, units_nil, show un f [] = [] by cases f <;> rfl, List.append_nil]
    exact E.refl _
  | x :: d, f, s, h, hok, hat, hf, hfb, ho, hl => by
    have hx := hok x List.mem_cons_self
    have hxa := hat x List.mem_cons_self
    have hok' : ∀ y ∈ d, StepOK y := fun y hy => hok y (List.mem_cons_of_mem _ hy)
    have hat' : ∀ y ∈ d, SAt B y := fun y hy => hat y (List.mem_cons_of_mem _ hy)
    rw [units_cons, nold_app] at ho
    rw [units_cons, List.length_append] at hl
    rw [units_cons]
    have hul := us_len hx
    rcases hx with hk | hk | hk
    · rw [us_keep hk.1] at ho hl hul ⊢
      rw [nold_keeps] at ho
      rw [List.length_replicate] at hl hul
      rw [un_keeps _ _ _ _ (by omega)]
      have htl : (f.take x.f1.toNat).length = x.f1.toNat := by rw [List.length_take]; omega
      obtain ⟨s1, e1, w1, u1⟩ := undoIn_spec x.f2 hk.2.2.2.2 hxa.1 hAB hA (f.take x.f1.toNat) s h (fun y hy => hf y (List.mem_of_mem_take hy)) (fun y hy => hfb y (List.mem_of_mem_take hy)) (by rw [htl]; omega)
      have hl1 : (wu s1).length = (wu s).length + x.f1.toNat := by rw [u1, List.length_append, List.length_map, htl]
      obtain ⟨o, e2, fo, eu⟩ := undo_spec hAB hA d (f.drop x.f1.toNat) s1 w1 hok' hat' (fun y hy => hf y (List.mem_of_mem_drop hy)) (fun y hy => hfb y (List.mem_of_mem_drop hy)) (by rw [List.length_drop]; omega) (by omega)
      refine ⟨o, Ev.congr (fun k => by rw [undoL, if_pos hk.1, if_pos ⟨by omega, by omega⟩]) (Ev.bind e1 e2), fo, eu.trans ?_⟩
      rw [u1, List.append_assoc]
      exact E.refl _
    · rw [us_add hk.1] at ho hl hul ⊢
      rw [nold_adds] at ho
      rw [List.length_map] at hl hul
      rw [un_adds]
      have hwl := wu_len s
      have hsc := h.cut
      obtain ⟨w1, u1⟩ := cut_spec (x.f3.length : Int) h (by omega)
      have hl1 : (wu ⟨s.out, s.add, s.cut + (x.f3.length : Int)⟩).length = (wu s).length + x.f3.length := by rw [u1, List.length_append, List.length_replicate]; omega
      obtain ⟨o, e2, fo, eu⟩ := undo_spec hAB hA d f ⟨s.out, s.add, s.cut + (x.f3.length : Int)⟩ w1 hok' hat' hf hfb (by omega) (by omega)
      refine ⟨o, Ev.congr (fun k => by rw [undoL, if_neg (by omega), if_pos hk.1, w64 (by omega) (by omega)]) e2, fo, eu.trans ?_⟩
      rw [u1, List.append_assoc, Int.toNat_natCast]
      exact E.refl _
    · rw [us_cut hk.1] at ho hl hul ⊢
      rw [nold_cuts] at ho
      rw [List.length_replicate] at hl hul
      rw [un_cuts _ _ _ (by omega)]
      have htl : (f.take x.f1.toNat).length = x.f1.toNat := by rw [List.length_take]; omega
      obtain ⟨s1, e1, w1, u1⟩ := elems_spec (f.take x.f1.toNat) h (pok_mem.2 (fun y hy => hf y (List.mem_of_mem_take hy))) (fun y hy => by have := hfb y (List.mem_of_mem_take hy); omega) hA (by rw [htl]; omega)
      have hl1 : (wu s1).length = (wu s).length + x.f1.toNat := by
        rw [u1.len, List.length_append, List.length_map, htl]
      obtain ⟨o, e2, fo, eu⟩ := undo_spec hAB hA d (f.drop x.f1.toNat) s1 w1 hok' hat' (fun y hy => hf y (List.mem_of_mem_drop hy)) (fun y hy => hfb y (List.mem_of_mem_drop hy)) (by rw [List.length_drop]; omega) (by omega)
      refine ⟨o, Ev.congr (fun k => by rw [undoL, if_neg (by omega), if_neg (by omega), if_pos ⟨by omega, by omega⟩]) (Ev.bind e1 e2), fo, eu.trans ?_⟩
      rw [← List.append_assoc]
      exact u1.app (E.refl _)
def actU : List (List S84) → List Bool → List (List S38) → List Un
  | a :: As, c :: Cs, t :: Ts => a.map .add ++ (if c = true then [.cut] else [.keep t]) ++ actU As Cs Ts
  | a :: _, [], _ => a.map .add
  | _, _, _ => []
theorem dof_spec {A : Nat} (hA : A ≤ 1073741824) : ∀ (As : List (List S84)) (Cs : List Bool) (Ts : List (List S38)) (s : WD), WF A s → As.length = Cs.length + 1 → Ts.length = Cs.length → (∀ a ∈ As, ∀ x ∈ a, ElemOK x ∧ x.f2.length ≤ A) → (∀ t ∈ Ts, VA true t ∧ t.length ≤ A) →
    (wu s).length + (actU As Cs Ts).length ≤ 1073741823 → ∃ o, Ev (fun k => dofL k As Cs Ts s.out s.add s.cut) o ∧ FO A o ∧ E (units o) (wu s ++ actU As Cs Ts)
  | [], Cs, Ts, s, h, h1, _, _, _, _ => by simp at h1
  | a :: As, [], Ts, s, h, h1, h2, ha, ht, hl => by
    have hol := units_len h.ok
    have hwl := wu_len s
    rw [actU, List.length_map] at hl
    have hsa : WF A ⟨s.out, s.add ++ a, s.cut⟩ := ⟨h.ok, h.ord, h.last, pok_app h.add (pok_mem.2 (fun x hx => (ha a List.mem_cons_self x hx).1)), h.cut, h.att, fun y hy => by rcases List.mem_append.1 hy with hy | hy; exact h.atta y hy; exact (ha a List.mem_cons_self y hy).2⟩
    have hE : E (wu ⟨s.out, s.add ++ a, s.cut⟩) (wu s ++ a.map .add) := by
      have := (E.refl (units s.out ++ s.add.map .add)).app (E.swap s.cut.toNat a).symm
      simpa [wu, List.append_assoc] using this
    obtain ⟨f1, f2, f3, f4⟩ := flush_spec hsa (by rw [hE.len, List.length_append, List.length_map]; omega)
    refine ⟨_, Ev.congr (fun k => by rw [dofL, if_neg (by omega)]) (Ev.now _), f1, ?_⟩
    rw [f2]
    exact hE
  | a :: As, c :: Cs, [], s, h, _, h2, _, _, _ => by simp at h2
  | a :: As, c :: Cs, t :: Ts, s, h, h1, h2, ha, ht, hl => by
    have hol := units_len h.ok
    have hwl := wu_len s
    have hsc := h.cut
    rw [actU, List.length_append, List.length_append, List.length_map] at hl
    have hcl : (if c = true then [Un.cut] else [Un.keep t]).length = 1 := by split <;> rfl
    have hsa : WF A ⟨s.out, s.add ++ a, s.cut⟩ := ⟨h.ok, h.ord, h.last, pok_app h.add (pok_mem.2 (fun x hx => (ha a List.mem_cons_self x hx).1)), h.cut, h.att, fun y hy => by rcases List.mem_append.1 hy with hy | hy; exact h.atta y hy; exact (ha a List.mem_cons_self y hy).2⟩
    have hE : E (wu ⟨s.out, s.add ++ a, s.cut⟩) (wu s ++ a.map .add) := by
      have := (E.refl (units s.out ++ s.add.map .add)).app (E.swap s.cut.toNat a).symm
      simpa [wu, List.append_assoc] using this
    have hEl : (wu ⟨s.out, s.add ++ a, s.cut⟩).length = (wu s).length + a.length := by rw [hE.len, List.length_append, List.length_map]
    have h1' : As.length = Cs.length + 1 := by simpa using h1
    have h2' : Ts.length = Cs.length := by simpa using h2
    have ha' : ∀ b ∈ As, ∀ x ∈ b, ElemOK x ∧ x.f2.length ≤ A := fun b hb => ha b (List.mem_cons_of_mem _ hb)
    have ht' : ∀ u ∈ Ts, VA true u ∧ u.length ≤ A := fun u hu => ht u (List.mem_cons_of_mem _ hu)
    cases c with
    | true =>
      obtain ⟨w1, u1⟩ := cut_spec 1 hsa (by omega)
      obtain ⟨o, e2, fo, eu⟩ := dof_spec hA As Cs Ts ⟨s.out, s.add ++ a, s.cut + 1⟩ w1 h1' h2' ha' ht' (by rw [u1, List.length_append, hEl]; simp only [Int.toNat_one, List.length_replicate]; omega)
      refine ⟨o, Ev.congr (fun k => by rw [dofL, if_neg (by omega), if_pos rfl, w64 (by omega) (by omega)]) e2, fo, eu.trans ?_⟩
      rw [u1, actU, if_pos rfl]
      have := (hE.app (E.refl ([Un.cut] ++ actU As Cs Ts)))
      simpa [List.append_assoc] using this
    | false =>
      have core := keep_core 1 t hsa (ht t List.mem_cons_self).1 (ht t List.mem_cons_self).2 hA (by omega) (by rw [hEl]; omega)
      obtain ⟨f1, f2, f3, f4⟩ := flush_spec hsa (by rw [hEl]; omega)
      obtain ⟨b, hb, hbi⟩ := dofB_ev t f1 hA
      obtain ⟨w1, u1⟩ := core b hbi
      obtain ⟨o, e2, fo, eu⟩ := dof_spec hA As Cs Ts _ w1 h1' h2' ha' ht' (by rw [u1, List.length_append, hEl]; simp only [Int.toNat_one, List.length_replicate]; omega)
      refine ⟨o, Ev.congr (fun k => by rw [dofL, if_neg (by omega), if_neg (by decide)]) (Ev.bind hb e2), fo, eu.trans ?_⟩
      rw [u1, actU, if_neg (by decide)]
      have := (hE.app (E.refl ([Un.keep t] ++ actU As Cs Ts)))
      simpa [List.append_assoc] using this
theorem roll8_ev (raw : List Int) (u : Nat) : ∃ x, rollF raw u 8 = some x ∧ 0 ≤ x ∧ x ≤ 7 := by
  have : ∃ x, rollF raw u 8 = some x := by
    unfold rollF
    split
    · exact ⟨_, rfl⟩
    · rw [show wrap64 (8 - 1) = 7 by unfold wrap64; omega]
      obtain ⟨r, hr, _⟩ := within_ev (wrap64 (rd raw ((u % raw.length : Nat) : Int) + (((u + 1) / raw.length : Nat) : Int))) 7 (by omega) (by omega)
      exact ⟨r, hr⟩
  obtain ⟨x, hx⟩ := this
  exact ⟨x, hx, roll8_range hx⟩
structure NmOK (name : ByteArray) : Prop where
  nm : NameOK name
  val : ValOK name
  lt : Op.bytesLess sBold.toList name.toList = true
theorem on_ok : ValOK sOn := by
  refine ⟨by decide, by decide, fun i h0 h1 => ?_⟩
  have : i = 0 ∨ i = 1 := by have : sOn.size = 2 := rfl; omega
  rcases this with rfl | rfl <;> decide
theorem bold_ok : NameOK sBold := by
  refine ⟨by decide, by decide, fun i h0 h1 => ?_⟩
  have : i = 0 ∨ i = 1 ∨ i = 2 ∨ i = 3 := by have : sBold.size = 4 := rfl; omega
  rcases this with rfl | rfl | rfl | rfl <;> exact .inl (by decide)
theorem va_one {ch : Bool} {x : S38} (h : ElOK ch x) : VA ch [x] := ⟨fun y hy => by rw [List.mem_singleton.1 hy]; exact h, List.pairwise_singleton _ _⟩
theorem on_va {ch : Bool} {name : ByteArray} (h : NmOK name) : VA ch (onL name) := va_one ⟨h.nm, .inl on_ok⟩
theorem attrsL_ok (y : Int) {name : ByteArray} (h : NmOK name) : VA true (attrsL y name) ∧ (attrsL y name).length ≤ 2 := by
  unfold attrsL
  split
  · exact ⟨va_one ⟨bold_ok, .inl on_ok⟩, by simp [onL]⟩
  · split
    · exact ⟨va_one ⟨bold_ok, .inr ⟨rfl, rfl⟩⟩, by simp⟩
    · split
      · refine ⟨⟨fun x hx => ?_, ?_⟩, by simp⟩
        · simp only [List.mem_cons, List.not_mem_nil, or_false] at hx
          rcases hx with rfl | rfl
          · exact ⟨bold_ok, .inl h.val⟩
          · exact ⟨h.nm, .inl on_ok⟩
        · refine List.Pairwise.cons (fun y hy => ?_) (List.pairwise_singleton _ _)
          rw [List.mem_singleton.1 hy]
          exact h.lt
      · exact ⟨va_nil _, by simp⟩
theorem addsL_ok {name : ByteArray} (h : NmOK name) (i : Nat) : ∀ j, ∀ x ∈ addsL i name j, ElemOK x ∧ x.f2.length ≤ 2 ∧ x.f2 = onL name ∧ x.f1 = 0 ∧ 65 ≤ x.f0 ∧ x.f0 ≤ 90
  | 0, x, hx => by cases hx
  | j + 1, x, hx => by
    rw [addsL, List.mem_append] at hx
    rcases hx with hx | hx
    · exact addsL_ok h i j x hx
    · rw [List.mem_singleton.1 hx]
      have := q_lt i j
      exact ⟨⟨.inr ⟨rfl, by unfold CharOK; simp only; omega⟩, on_va h⟩, by simp [onL], rfl, rfl, by simp only; omega, by simp only; omega⟩
theorem chL_spec (raw : List Int) {name : ByteArray} (h : NmOK name) : ∀ (m i u : Nat) (As : List (List S84)) (Cs : List Bool) (Ts : List (List S38)), (∀ a ∈ As, a.length ≤ 2 ∧ ∀ x ∈ a, ElemOK x ∧ x.f2.length ≤ 2 ∧ x.f2 = onL name ∧ x.f1 = 0 ∧ 65 ≤ x.f0 ∧ x.f0 ≤ 90) → (∀ t ∈ Ts, VA true t ∧ t.length ≤ 2) →
    ∃ w, chL raw name m i u As Cs Ts = some w ∧ (∀ a ∈ w.1, a.length ≤ 2 ∧ ∀ x ∈ a, ElemOK x ∧ x.f2.length ≤ 2 ∧ x.f2 = onL name ∧ x.f1 = 0 ∧ 65 ≤ x.f0 ∧ x.f0 ≤ 90) ∧ (∀ t ∈ w.2.2, VA true t ∧ t.length ≤ 2)
  | 0, i, u, As, Cs, Ts, ha, ht => by
    obtain ⟨x, hx, h0, h7⟩ := roll8_ev raw u
    refine ⟨_, by rw [chL, hx]; rfl, fun a hm => ?_, ht⟩
    rcases List.mem_append.1 hm with hm | hm
    · exact ha a hm
    · rw [List.mem_singleton.1 hm]
      exact ⟨by rw [addsL_len]; omega, addsL_ok h i _⟩
  | m + 1, i, u, As, Cs, Ts, ha, ht => by
    obtain ⟨x, hx, h0, h7⟩ := roll8_ev raw u
    obtain ⟨y, hy, _⟩ := roll8_ev raw (rollU raw u)
    obtain ⟨z, hz, _⟩ := roll8_ev raw (rollU raw (rollU raw u))
    obtain ⟨t, e, h1, h2⟩ := chL_spec raw h m (i + 1) (rollU raw (rollU raw (rollU raw u))) (As ++ [addsL i name (x - 5).toNat]) (Cs ++ [z == 0]) (Ts ++ [attrsL y name])
      (fun a hm => by
        rcases List.mem_append.1 hm with hm | hm
        · exact ha a hm
        · rw [List.mem_singleton.1 hm]
          exact ⟨by rw [addsL_len]; omega, addsL_ok h i _⟩)
      (fun t hm => by
        rcases List.mem_append.1 hm with hm | hm
        · exact ht t hm
        · rw [List.mem_singleton.1 hm]
          exact attrsL_ok y h)
    exact ⟨t, by rw [chL, hx, Option.bind_some, hy, Option.bind_some, hz, Option.bind_some]; exact e, h1, h2⟩
theorem actU_counts : ∀ (As : List (List S84)) (Cs : List Bool) (Ts : List (List S38)), As.length = Cs.length + 1 → Ts.length = Cs.length → (∀ a ∈ As, a.length ≤ 2) → nold (actU As Cs Ts) = Cs.length ∧ (actU As Cs Ts).length ≤ 3 * Cs.length + 2
  | [], Cs, Ts, h1, _, _ => by simp at h1
  | a :: As, [], Ts, _, _, ha => by have := ha a List.mem_cons_self; rw [actU, nold_adds, List.length_map]; exact ⟨rfl, by simp; omega⟩
  | a :: As, c :: Cs, [], _, h2, _ => by simp at h2
  | a :: As, c :: Cs, t :: Ts, h1, h2, ha => by
    have := ha a List.mem_cons_self
    have ih := actU_counts As Cs Ts (by simpa using h1) (by simpa using h2) (fun b hb => ha b (List.mem_cons_of_mem _ hb))
    rw [actU, nold_app, nold_app, nold_adds, List.length_append, List.length_append, List.length_map, List.length_cons]
    cases c <;> simp [nold] <;> omega
structure ChOK (name : ByteArray) (n : Nat) (o : List S70) : Prop where
  fo : FO 2 o
  ex : ∃ As Cs Ts, E (units o) (actU As Cs Ts) ∧ As.length = Cs.length + 1 ∧ Ts.length = Cs.length ∧ Cs.length = n ∧ (∀ a ∈ As, a.length ≤ 2 ∧ ∀ x ∈ a, ElemOK x ∧ x.f2.length ≤ 2 ∧ x.f2 = onL name ∧ x.f1 = 0 ∧ 65 ≤ x.f0 ∧ x.f0 ≤ 90) ∧ (∀ t ∈ Ts, VA true t ∧ t.length ≤ 2)
theorem change_ev (n : Nat) (raw : List Int) {name : ByteArray} (h : NmOK name) (hn : n ≤ 1048576) : ∃ o, Ev (fun k => changeF k (n : Int) raw name) o ∧ ChOK name n o := by
  obtain ⟨t, e, h1, h2⟩ := chL_spec raw h n 0 0 [] [] [] (fun a ha => by cases ha) (fun a ha => by cases ha)
  have hlen := chL_len _ _ _ _ _ _ _ _ _ e
  simp only [List.length_nil] at hlen
  have hc := actU_counts t.1 t.2.1 t.2.2 (by omega) (by omega) (fun a ha => (h1 a ha).1)
  obtain ⟨o, e2, fo, eu⟩ := dof_spec (A := 2) (by omega) t.1 t.2.1 t.2.2 ⟨[], [], 0⟩ (WF.nil 2) (by omega) (by omega) (fun a ha x hx => ⟨((h1 a ha).2 x hx).1, ((h1 a ha).2 x hx).2.1⟩) h2 (by show 0 + _ ≤ _; omega)
  exact ⟨o, Ev.congr (fun k => by rw [changeF, if_pos (by omega), Int.toNat_natCast, e, Option.bind_some]) e2, fo, t.1, t.2.1, t.2.2, eu, by omega, by omega, by omega, h1, h2⟩
theorem ChOK.counts {name : ByteArray} {n : Nat} {o : List S70} (h : ChOK name n o) : nold (units o) = n ∧ (units o).length ≤ 3 * n + 2 := by
  obtain ⟨As, Cs, Ts, eu, h1, h2, h3, h4, h5⟩ := h.ex
  have := actU_counts As Cs Ts h1 h2 (fun a ha => (h4 a ha).1)
  rw [eu.old, eu.len]
  omega
end Go.Proofs.Ytdgemabmmomebaa.PDelta
end
section
namespace Go.Proofs.Ytdgemabmmomebaa.PDelta
open Go.RowKit Go.Proofs.YtdgemabmmomebaaW.PrintWords Go.Proofs.YtdgemabmmomebaaW.PrintLast Go.Proofs.YtdgemabmmomebaaW.PrintMore
set_option linter.unusedVariables false
set_option linter.unusedSimpArgs false
theorem let_ab : chancerykeep1_letters.f 20 (⟨#[97, 98]⟩ : ByteArray) = some [⟨97, 0, []⟩, ⟨98, 0, []⟩] := by kernel_rfl
theorem let_x : chancerykeep1_letters.f 20 (⟨#[120]⟩ : ByteArray) = some [⟨120, 0, []⟩] := by kernel_rfl
theorem let_xb : chancerykeep1_letters.f 20 (⟨#[120, 98]⟩ : ByteArray) = some [⟨120, 0, []⟩, ⟨98, 0, []⟩] := by kernel_rfl
theorem app_ab : delta_Apply.f 40 [⟨97, 0, []⟩, ⟨98, 0, []⟩] [⟨1, 0, [], [⟨120, 0, []⟩]⟩, ⟨2, 1, [], []⟩, ⟨0, 1, [], []⟩] = some ([⟨120, 0, []⟩, ⟨98, 0, []⟩], 0) := by kernel_rfl
theorem same_xb : chanceryref1_SameFlow.f 40 [⟨120, 0, []⟩, ⟨98, 0, []⟩] [⟨120, 0, []⟩, ⟨98, 0, []⟩] = some true := by kernel_rfl
set_option maxRecDepth 100000 in
set_option maxHeartbeats 800000 in
theorem deltas_calls (w : World) : Calls Try.prog 41 #[] w fun e w' => e = .returned (.bool true) ∧ Below w.heap.size w w' := by
  have hu70 := Try.underlying70
  have HB0 := Aside0.mk (Below.refl w.heap.size w)
  obtain ⟨la, hla⟩ : ∃ l : List S84, l = [⟨97, 0, []⟩, ⟨98, 0, []⟩] := ⟨_, rfl⟩
  obtain ⟨lx, hlx⟩ : ∃ l : List S84, l = [⟨120, 0, []⟩] := ⟨_, rfl⟩
  obtain ⟨lr, hlr⟩ : ∃ l : List S84, l = [⟨120, 0, []⟩, ⟨98, 0, []⟩] := ⟨_, rfl⟩
  have H1 := Aside0.mk let_ab
  have H2 := Aside0.mk let_x
  have H3 := Aside0.mk app_ab
  have H4 := Aside0.mk let_xb
  have H5 := Aside0.mk same_xb
  rw [← hla] at H1 H3
  rw [← hlx] at H2 H3
  obtain ⟨ld, hld⟩ : ∃ l : List S70, l = [⟨1, 0, [], lx⟩, ⟨2, 1, [], []⟩, ⟨0, 1, [], []⟩] := ⟨_, rfl⟩
  rw [← hld] at H3
  have HLD := Aside0.mk hld
  clear hld
  rw [← hlr] at H3 H4 H5
  clear hla hlx hlr
  go_enter Try.func41, Try.ntmps41
  go_upto_region 2 with (first
    | (go_at_call 81; with_reducible refine (chancerykeep1_letters.calls 20 _ la _ H1.out).mono ?_; rintro e w1 ⟨v1, rfl, hN1, hb1⟩; obtain ⟨A1, n1, rfl⟩ := Kd.S_slice hN1; have HN1 := Aside0.mk hN1; have HB1 := Aside0.mk hb1; clear hN1 hb1)
    | (go_at_call 81; with_reducible refine (chancerykeep1_letters.calls 20 _ lx _ H2.out).mono ?_; rintro e w2 ⟨v2, rfl, hN2, hb2⟩; obtain ⟨A2, n2, rfl⟩ := Kd.S_slice hN2; have HN2 := Aside0.mk hN2; have HB2 := Aside0.mk (below_step HB1.out hb2); have HN1' := Aside0.mk (Kd.S_below HN1.out hb2); clear hN2 hb2 HN1)
    | ((with_reducible refine gate_dst (N := 9) rfl ?_); refine Kd.N_lit k70 w2.heap.size 70 ?hg (N' := 9) ?hd (xs := [⟨1, 0, [], lx⟩, ⟨2, 1, [], []⟩, ⟨0, 1, [], []⟩]) (inner := [.int .i64 1, .int .i64 0, .slice none 0 0, .slice A2 lx.length n2, .int .i64 2, .int .i64 1, .slice none 0 0, .slice none 0 0, .int .i64 0, .int .i64 1, .slice none 0 0, .slice none 0 0]) (ok := fun _ => True) (okp := fun _ => True) ?hr ?hp (fun _ hk => hk) trivial (Below.refl _ _) (Nat.le_refl _) (by simp) ?_; (case hd => rfl); (case hg => rfl); (case hr => first | (go_simp; done) | (go_simp; rfl)); (case hp => exact Reps.c4 (k70_mkF _ _ ⟨1, 0, [], lx⟩ (Nat.le_refl 0) (Kd.F_nil _ _ _) (Kd.N_reads' (Kd.S_N HN2.out)).2.1 (Kd.S_F HN2.out)) (Reps.c4 (k70_mkF _ _ ⟨2, 1, [], []⟩ (Nat.le_refl 0) (Kd.F_nil _ _ _) (Nat.le_refl 0) (Kd.F_nil _ _ _)) (Reps.c4 (k70_mkF _ _ ⟨0, 1, [], []⟩ (Nat.le_refl 0) (Kd.F_nil _ _ _) (Nat.le_refl 0) (Kd.F_nil _ _ _)) (Reps.none _ _)))); intro v3 w3 hN3 hb3 hg3 hat3; rw [← HLD.out] at hN3; obtain ⟨A3, n3, rfl⟩ := Kd.N_slice hN3; have HN3 := Aside0.mk hN3; have HB3 := Aside0.mk (below_step HB2.out hb3); have HN1 := Aside0.mk (Kd.S_below HN1'.out hb3); clear hN3 hb3 hg3 hat3 HN1')
    | (go_at_call 48; with_reducible refine (delta_Apply.calls 40 (fun _ => True) A1 n1 la A3 n3 ld lr 0 _ (Kd.S_V HN1.out) (Kd.N_reads' HN3.out).2.2 (Kd.N_reads' HN3.out).2.1 H3.out).mono ?_; rintro e w4 ⟨v4, rfl, hN4, hb4⟩; obtain ⟨A4, n4, rfl⟩ := Kd.N_slice hN4; have HN4 := Aside0.mk hN4; have HB4 := Aside0.mk (below_step HB3.out hb4); clear hN4 hb4))
  go_wp2_with (first
    | (go_at_call 81; with_reducible refine (chancerykeep1_letters.calls 20 _ lr _ H4.out).mono ?_; rintro e w5 ⟨v5, rfl, hN5, hb5⟩; obtain ⟨A5, n5, rfl⟩ := Kd.S_slice hN5; have HN5 := Aside0.mk hN5; have HB5 := Aside0.mk (below_step HB4.out hb5); have HN4' := Aside0.mk (Kd.N_below HN4.out hb5); clear hN5 hb5 HN4)
    | (go_at_call 50; with_reducible refine (chanceryref1_SameFlow.calls 40 A4 n4 lr A5 n5 lr true _ (Kd.N_reads' HN4'.out).2.2 (Kd.N_reads' HN4'.out).2.1 (Kd.N_reads' (Kd.S_N HN5.out)).2.2 (Kd.N_reads' (Kd.S_N HN5.out)).2.1 H5.out).mono ?_; rintro e w6 ⟨rfl, hb6⟩; have HB6 := Aside0.mk (below_step HB5.out hb6); clear hb6))
  go_ret
  exact ⟨rfl, HB6.out⟩
end Go.Proofs.Ytdgemabmmomebaa.PDelta
end
section
namespace Go.Proofs.Ytdgemabmmomebaa.PDelta
open Go.RowKit Go.Proofs.YtdgemabmmomebaaW.PrintWords Go.Proofs.YtdgemabmmomebaaW.PrintLast Go.Proofs.YtdgemabmmomebaaW.PrintMore
set_option linter.unusedVariables false
set_option linter.unusedSimpArgs false
theorem drawn_below {w w' : World} (h : Drawn0 w w') : Below w.heap.size w w' := by
  obtain ⟨n, rfl⟩ := h
  exact pw_below_drewN (Below.refl _ _) n
def UndoCore (k : Nat) (f : List S84) (d : List S70) : Prop :=
  ∃ g u b, delta_Apply.f k f d = some (g, 0) ∧ undoF k f d = some (u, 0) ∧ delta_Apply.f k g u = some (b, 0) ∧ chanceryref1_SameFlow.f k b f = some true
def cut60 (f : List S84) : List S84 := if 60 < f.length then f.take 60 else f
def UndoAt (k : Nat) (f : List S84) (d : List S70) (raw : List Int) : Prop :=
  ∃ e, chanceryref1_PartError.f k f = some e ∧ (e ≠ 0 ∨ e = 0 ∧ ∃ e1 n, chanceryref1_DeltaError.f k d = some e1 ∧ (e1 = 0 → chanceryref1_DeltaSize.f k d = some n) ∧
    ((e1 = 0 ∧ n = (f.length : Int) ∧ UndoCore k f d) ∨ ((e1 ≠ 0 ∨ n ≠ (f.length : Int)) ∧ ∃ d', changeF k ((cut60 f).length : Int) raw (⟨#[120]⟩ : ByteArray) = some d' ∧ UndoCore k (cut60 f) d')))
set_option maxRecDepth 100000 in
set_option maxHeartbeats 4000000 in
theorem undoLaw_calls (k : Nat) (A0 : Option Addr) (c0 : Nat) (f : List S84) (A1 : Option Addr) (c1 : Nat) (d : List S70) (A2 : Option Addr) (c2 : Nat) (raw : List Int) (w : World) (hr0 : Kd.C k84 w A0 f.length f) (hc0 : f.length ≤ c0) (hr1 : Kd.C k70 w A1 d.length d) (hc1 : d.length ≤ c1) (hr2 : Kd.C (Kd.int .i64) w A2 raw.length raw) (hc2 : raw.length ≤ c2) (h : UndoAt k f d raw) :
    Calls Try.prog 11 #[.slice A0 f.length c0, .slice A1 d.length c1, .slice A2 raw.length c2] w fun e w' => e = .returned (.bool true) ∧ Below w.heap.size w w' := by
  have HR0 := Aside0.mk hr0
  have HC0 := Aside0.mk hc0
  have HR1 := Aside0.mk hr1
  have HC1 := Aside0.mk hc1
  have HR2 := Aside0.mk hr2
  have HC2 := Aside0.mk hc2
  clear hr0 hc0 hr1 hc1 hr2 hc2
  obtain ⟨e, he, h⟩ := h
  have HE := Aside0.mk he
  clear he
  rcases h with h0 | ⟨h0, h⟩
  · have h0b : (e != 0) = true := bne_iff_ne.mpr h0
    clear h0
    go_enter Try.func11, Try.ntmps11
    go_wp2_with (first
      | (go_at_call 41; (with_reducible refine (deltas_calls _).mono ?_); rintro e1 w1 ⟨rfl, hb⟩; have HB1 := Aside0.mk hb; clear hb)
      | (go_at_call 42; (with_reducible refine (chanceryref1_PartError.calls k _ _ f e _ (Kd.C_below HR0.out HB1.out) HC0.out HE.out).mono ?_); rintro e1 w2 ⟨rfl, hb⟩; have HB2 := Aside0.mk (below_step HB1.out hb); clear hb))
    first | go_ret | go_ret2
    exact ⟨rfl, HB2.out⟩
  have h0b : (e != 0) = false := by simpa using h0
  clear h0
  obtain ⟨e1, n, he1, hn, h⟩ := h
  have HE1 := Aside0.mk he1
  have HN := Aside0.mk hn
  have H := Aside0.mk h
  clear he1 hn h
  go_enter Try.func11, Try.ntmps11
  go_upto_region 5 with (first
      | (go_at_call 41; (with_reducible refine (deltas_calls _).mono ?_); rintro e1 w1 ⟨rfl, hb⟩; have HB1 := Aside0.mk hb; clear hb)
      | (go_at_call 42; (with_reducible refine (chanceryref1_PartError.calls k _ _ f e _ (Kd.C_below HR0.out HB1.out) HC0.out HE.out).mono ?_); rintro e1 w2 ⟨rfl, hb⟩; have HB2 := Aside0.mk (below_step HB1.out hb); clear hb))
  obtain ⟨cb, hcb⟩ : ∃ b : Bool, b = (decide (e1 ≠ 0) || decide (n ≠ (f.length : Int))) := ⟨_, rfl⟩
  have HCB := Aside0.mk hcb
  clear hcb
  go_cut [27] (fun v27 wx => v27 = .bool cb ∧ Aside0 (Below w.heap.size w wx))
  case first =>
    by_cases q1 : e1 = 0
    · have q1b : (e1 != 0) = false := by simpa using q1
      have HN2 := Aside0.mk (HN.out q1)
      obtain ⟨q, hq⟩ : ∃ q : Bool, (n != (f.length : Int)) = q := ⟨_, rfl⟩
      have HCQ := Aside0.mk (show cb = q by rw [HCB.out, ← hq, decide_eq_false (by simpa using q1), Bool.false_or]; by_cases hq2 : n = (f.length : Int) <;> simp [hq2])
      clear q1
      go_wp2_with (first
        | (go_at_call 46; (with_reducible refine (chanceryref1_DeltaError.calls k _ _ d e1 _ (Kd.C_below HR1.out HB2.out) HC1.out HE1.out).mono ?_); rintro e1 w3 ⟨rfl, hb⟩; have HB3 := Aside0.mk (below_step HB2.out hb); clear hb)
        | (go_at_call 47; (with_reducible refine (chanceryref1_DeltaSize.calls k _ _ d n _ (Kd.C_below HR1.out HB3.out) HC1.out HN2.out).mono ?_); rintro e1 w4 ⟨rfl, hb⟩; have HB4 := Aside0.mk (below_step HB3.out (drawn_below hb)); clear hb))
      go_meet
      case rel => exact ⟨by rw [HCQ.out], HB4⟩
    · have q1b : (e1 != 0) = true := bne_iff_ne.mpr q1
      have HCQ := Aside0.mk (show cb = true by rw [HCB.out, decide_eq_true q1, Bool.true_or])
      clear q1
      go_wp2_with (first
        | (go_at_call 46; (with_reducible refine (chanceryref1_DeltaError.calls k _ _ d e1 _ (Kd.C_below HR1.out HB2.out) HC1.out HE1.out).mono ?_); rintro e1 w3 ⟨rfl, hb⟩; have HB3 := Aside0.mk (below_step HB2.out hb); clear hb))
      go_meet
      case rel => exact ⟨by rw [HCQ.out], HB3⟩
  case rest =>
  obtain ⟨rfl, HB5⟩ := hcut
  clear HB1 HB2
  go_upto_if 27 with (fail)
  go_cut [0, 1] (fun v0 v1 wx => ∃ (A : Option Addr) (c : Nat) (f' : List S84) (B : Option Addr) (m : Nat) (d' : List S70), v0 = .slice A f'.length c ∧ v1 = .slice B d'.length m ∧ Aside0 (Kd.C k84 wx A f'.length f' ∧ f'.length ≤ c ∧ Kd.C k70 wx B d'.length d' ∧ d'.length ≤ m ∧ Below w.heap.size w wx) ∧ Aside0 (UndoCore k f' d'))
  case first =>
    rcases H.out with ⟨q1, q2, q3⟩ | ⟨q1, d', hd', hcore⟩
    · obtain rfl : cb = false := by rw [HCB.out, q1, q2]; simp
      have HQ := Aside0.mk q3
      clear q1 q2 q3 H
      go_wp2
      go_meet
      case rel => exact ⟨A0, c0, f, A1, c1, d, rfl, rfl, ⟨Kd.C_below HR0.out HB5.out, HC0.out, Kd.C_below HR1.out HB5.out, HC1.out, HB5.out⟩, HQ⟩
    · obtain rfl : cb = true := by
        rw [HCB.out]
        rcases q1 with q1 | q1
        · rw [decide_eq_true q1, Bool.true_or]
        · rw [decide_eq_true q1, Bool.or_true]
      have HQ := Aside0.mk hcore
      have HDD := Aside0.mk hd'
      clear hcore hd' q1 H
      by_cases hl : 60 < f.length
      · have g1 : decide ((60 : Int) < (f.length : Int)) = true := decide_eq_true (by omega)
        have g1' : decide (60 < f.length) = true := decide_eq_true hl
        have e60 : cut60 f = f.take 60 := if_pos hl
        have e61 : (cut60 f).length = 60 := by rw [e60, List.length_take]; omega
        have HC60 := Aside0.mk (show Kd.C k84 w A0 (cut60 f).length (cut60 f) ∧ (cut60 f).length ≤ c0 by
          have := HC0.out
          rw [e60]
          exact ⟨Kd.C_take HR0.out (by omega), by rw [List.length_take]; omega⟩)
        have HE61 := Aside0.mk e61
        have HDE := Aside0.mk (show changeF k 60 raw (⟨#[120]⟩ : ByteArray) = some d' by have := HDD.out; rw [e61] at this; exact this)
        have s1 : (60 : Int) ≤ (c0 : Int) := by have := HC0.out; omega
        have s1' : (60 : Nat) ≤ c0 := by omega
        have s2 : decide ((60 : Int) ≤ (c0 : Int)) = true := decide_eq_true s1
        have s2' : decide (60 ≤ c0) = true := decide_eq_true s1'
        clear e60 e61
        go_wp2_with (go_at_call 43; go_loud ((with_reducible refine (change_calls k 60 A2 c2 raw (⟨#[120]⟩ : ByteArray) d' _ (Kd.C_below HR2.out HB5.out) HC2.out HDE.out).mono ?_); rintro e1 w6 ⟨v6, rfl, hR, hb⟩; obtain ⟨A6, n6, rfl⟩ := Kd.N_slice hR; have HR6 := Aside0.mk hR; have HB6 := Aside0.mk (below_step HB5.out hb); clear hR hb))
        go_meet
        case rel => exact ⟨A0, c0, cut60 f, A6, n6, d', by rw [HE61.out], rfl, ⟨Kd.C_below HC60.out.1 HB6.out, HC60.out.2, (Kd.N_reads' HR6.out).2.2, (Kd.N_reads' HR6.out).2.1, HB6.out⟩, HQ⟩
      · have g1 : decide ((60 : Int) < (f.length : Int)) = false := decide_eq_false (by omega)
        have g1' : decide (60 < f.length) = false := decide_eq_false hl
        have e60 : cut60 f = f := if_neg hl
        rw [e60] at HQ HDD
        clear e60 hl
        go_wp2_with (go_at_call 43; go_loud ((with_reducible refine (change_calls k (f.length : Int) A2 c2 raw (⟨#[120]⟩ : ByteArray) d' _ (Kd.C_below HR2.out HB5.out) HC2.out HDD.out).mono ?_); rintro e1 w6 ⟨v6, rfl, hR, hb⟩; obtain ⟨A6, n6, rfl⟩ := Kd.N_slice hR; have HR6 := Aside0.mk hR; have HB6 := Aside0.mk (below_step HB5.out hb); clear hR hb))
        go_meet
        case rel => exact ⟨A0, c0, f, A6, n6, d', rfl, rfl, ⟨Kd.C_below HR0.out HB6.out, HC0.out, (Kd.N_reads' HR6.out).2.2, (Kd.N_reads' HR6.out).2.1, HB6.out⟩, HQ⟩
  case rest =>
  obtain ⟨A, c, f', B, m, d', rfl, rfl, HF, HU⟩ := hcut
  obtain ⟨g, u, b, ha, hu, hb', hs⟩ := HU.out
  have HA := Aside0.mk ha
  have HU2 := Aside0.mk hu
  have HBK := Aside0.mk hb'
  have HSM := Aside0.mk hs
  clear ha hu hb' hs HU HB5
  go_wp2_with (first
    | (go_at_call 48; (with_reducible refine (delta_Apply.calls k (fun j => j < wc.heap.size) A c f' B m d' g 0 wc (Kd.V_mk HF.out.2.1 (Kd.C_F k84_heap HF.out.1)) HF.out.2.2.1 HF.out.2.2.2.1 HA.out).mono ?_); rintro e1 w7 ⟨v7, rfl, hR, hb⟩; obtain ⟨A7, n7, rfl⟩ := Kd.N_slice hR; have HR7 := Aside0.mk hR; have HB7 := Aside0.mk hb; clear hR hb)
    | (go_at_call 49; (with_reducible refine (undo_calls k A c f' B m d' u 0 w7 (Kd.C_below HF.out.1 HB7.out) HF.out.2.1 (Kd.C_below HF.out.2.2.1 HB7.out) HF.out.2.2.2.1 HU2.out).mono ?_); rintro e1 w8 ⟨v8, rfl, hR, hb⟩; obtain ⟨A8, n8, rfl⟩ := Kd.N_slice hR; have HR8 := Aside0.mk hR; have HB8 := Aside0.mk hb; clear hR hb)
    | (go_at_call 48; (with_reducible refine (delta_Apply.calls k (fun _ => True) A7 n7 g A8 n8 u b 0 w8 (Kd.N_V (Kd.N_mono (Kd.N_below HR7.out HB8.out) (fun _ _ => trivial))) (Kd.N_reads' HR8.out).2.2 (Kd.N_reads' HR8.out).2.1 HBK.out).mono ?_); rintro e1 w9 ⟨v9, rfl, hR, hb⟩; obtain ⟨A9, n9, rfl⟩ := Kd.N_slice hR; have HR9 := Aside0.mk hR; have HB9 := Aside0.mk hb; clear hR hb)
    | (go_at_call 50; (with_reducible refine (chanceryref1_SameFlow.calls k A9 n9 b A c f' true w9 (Kd.N_reads' HR9.out).2.2 (Kd.N_reads' HR9.out).2.1 (Kd.C_below HF.out.1 (HB7.out.trans ((HB8.out.mono HB7.out.size).trans (HB9.out.mono (Nat.le_trans HB7.out.size HB8.out.size))))) HF.out.2.1 HSM.out).mono ?_); rintro e1 w10 ⟨rfl, hb⟩; have HB10 := Aside0.mk (below_step (below_step (below_step (below_step HF.out.2.2.2.2 HB7.out) HB8.out) HB9.out) hb); clear hb))
  first | go_ret | go_ret2
  exact ⟨rfl, HB10.out⟩
end Go.Proofs.Ytdgemabmmomebaa.PDelta
end
section
namespace Go.Proofs.Ytdgemabmmomebaa.PDelta
open Go.RowKit Go.Proofs.YtdgemabmmomebaaW.PrintWords Go.Proofs.YtdgemabmmomebaaW.PrintLast Go.Proofs.YtdgemabmmomebaaW.PrintMore
set_option linter.unusedVariables false
set_option linter.unusedSimpArgs false
def FFine (f : List S84) : Prop := f.length ≤ 1048576 ∧ ∀ x ∈ f, Small x.f2 ∧ x.f2.length ≤ 1048576
theorem FFine.fsmall {f : List S84} (h : FFine f) : FSmall f := ⟨by have := h.1; omega, fun x hx => ⟨(h.2 x hx).1, by have := (h.2 x hx).2; omega⟩⟩
theorem FFine.lb {f : List S84} (h : FFine f) : LB 1048576 f := ⟨h.1, fun x hx => (h.2 x hx).2⟩
def DFine (d : List S70) : Prop := d.length ≤ 1048576 ∧ (d.map (fun s => s.f3.length)).sum ≤ 1048576 ∧ ∀ s ∈ d, Small s.f2 ∧ s.f2.length ≤ 1048576 ∧ FFine s.f3
theorem DFine.dsm {d : List S70} (h : DFine d) : DSm d := ⟨by have := h.1; omega, fun s hs => ⟨(h.2.2 s hs).1, (h.2.2 s hs).2.2.fsmall⟩⟩
theorem DFine.db {d : List S70} (h : DFine d) : DB 1073741824 d := ⟨by have := h.1; omega, fun s hs => ⟨by have := (h.2.2 s hs).2.1; omega, (h.2.2 s hs).2.2.lb.mono (by omega)⟩⟩
theorem DFine.sat {d : List S70} (h : DFine d) : ∀ s ∈ d, SAt 1048576 s := fun s hs => ⟨(h.2.2 s hs).2.1, fun y hy => ((h.2.2 s hs).2.2.2 y hy).2⟩
theorem us_len2 {s : S70} (h : StepOK s) : (us s).length = nold (us s) + s.f3.length := by
  rcases h with h | h | h
  · rw [us_keep h.1, nold_keeps, List.length_replicate, h.2.2.2.1]; rfl
  · rw [us_add h.1, nold_adds, List.length_map]; omega
  · rw [us_cut h.1, nold_cuts, List.length_replicate, h.2.2.2.1]; rfl
theorem units_len2 : ∀ {d : List S70}, (∀ s ∈ d, StepOK s) → (units d).length = nold (units d) + (d.map (fun s => s.f3.length)).sum
  | [], _ => rfl
  | s :: d, h => by
    have h1 := us_len2 (h s List.mem_cons_self)
    have h2 := units_len2 (d := d) (fun x hx => h x (List.mem_cons_of_mem _ hx))
    rw [units_cons, List.length_append, nold_app, List.map_cons, List.sum_cons]
    omega
theorem undo_core (f : List S84) (d : List S70) (hf : POK f) (hl : LB 1048576 f) (h : DOK d) (hd : DB 1073741824 d) (hat : ∀ s ∈ d, SAt 1048576 s) (ho : old d = (f.length : Int)) (hu : (units d).length ≤ 4194304) : ∃ K, ∀ k, K ≤ k → UndoCore k f d := by
  have hno := old_units h.ok
  have hnn := new_units h.ok
  have hle := nnew_le (units d)
  have hfe := pok_mem.1 hf
  have hcnt : nold (units d) = f.length := by omega
  obtain ⟨o, e2, fo, eu⟩ := undo_spec (A := 3145728) (B := 1048576) (by omega) (by omega) d f ⟨[], [], 0⟩ (WF.nil _) h.ok hat hfe (fun x hx => hl.2 x hx) (by omega) (by show 0 + _ ≤ _; omega)
  have eu' : E (units o) (un f (units d)) := eu
  have hul := un_len (units d) f
  have hc := un_counts (units d) f hcnt
  have hgl := run_len (units d) f hcnt
  obtain ⟨g, hg⟩ : ∃ g, g = (run f (units d)).1 := ⟨_, rfl⟩
  have e1 := apply_ev f d hf (hl.mono (by omega)) h hd ho (by omega)
  rw [← hg] at e1 hgl
  have hgok : POK g := pok_mem.2 (by rw [hg]; exact run_ok _ _ hfe (units_uok h.ok))
  have hgl2 : LB 1073741824 g := ⟨by omega, fun x hx => by
    rw [hg] at hx
    have := run_att (B := 1048576) (A := 1048576) (units d) f (fun x hx => hl.2 x hx) (units_uat h.ok hat) x hx
    omega⟩
  have hod : DOK o := fo.dok (by rw [eu'.len]; omega)
  have hodb : DB 1073741824 o := fo.db (by rw [eu'.len]; omega) (by omega)
  have hoo : old o = (g.length : Int) := by rw [old_units fo.ok, eu'.old, hc.1, hgl]
  have hon : new o ≤ 1073741824 := by rw [new_units fo.ok, eu'.new, hc.2]; have := hl.1; omega
  have e3 := apply_ev g o hgok hgl2 hod hodb hoo hon
  rw [eu'.run, hg, run_back (units d) f hcnt hfe (units_uok h.ok)] at e3
  rw [← hg] at e3
  have e4 := same_flow_ev f (fsmall hf (hl.mono (by omega)) (Nat.le_refl _))
  have e2' : Ev (fun k => undoF k f d) (o, 0) := Ev.congr (fun k => by
    unfold undoF
    rw [if_neg (by have := hd.1; have := hl.1; omega)]) (Ev.bind (fits_ev f d hf (hl.mono (by omega)) h hd ho) (Ev.congr (fun k => by rw [if_neg (by decide)]) e2))
  obtain ⟨K1, h1⟩ := e1
  obtain ⟨K2, h2⟩ := e2'
  obtain ⟨K3, h3⟩ := e3
  obtain ⟨K4, h4⟩ := e4
  exact ⟨K1 + K2 + K3 + K4, fun k hk => ⟨g, o, f, h1 k (by omega), h2 k (by omega), h3 k (by omega), h4 k (by omega)⟩⟩
theorem x_ok : NmOK (⟨#[120]⟩ : ByteArray) := by
  refine ⟨⟨by decide, by decide, fun i h0 h1 => ?_⟩, ⟨by decide, by decide, fun i h0 h1 => ?_⟩, by decide +kernel⟩
  · have : i = 0 := by have : (⟨#[120]⟩ : ByteArray).size = 1 := rfl; omega
    subst this
    exact .inl (by decide)
  · have : i = 0 := by have : (⟨#[120]⟩ : ByteArray).size = 1 := rfl; omega
    subst this
    decide
theorem undo_law (f : List S84) (d : List S70) (raw : List Int) (hf : FFine f) (hd : DFine d) : ∃ k, UndoAt k f d raw := by
  obtain ⟨e, he, hei⟩ := rpart_ev f hf.fsmall
  by_cases h0 : e = 0
  rotate_left
  · obtain ⟨k, hk⟩ := he.rounds
    exact ⟨k, e, hk, .inl h0⟩
  subst h0
  have hp := hei.1 rfl
  obtain ⟨e1, he1, hei1⟩ := rcheck_ev d hd.dsm
  have made : ∃ d' K, ∀ k, K ≤ k → changeF k ((cut60 f).length : Int) raw (⟨#[120]⟩ : ByteArray) = some d' ∧ UndoCore k (cut60 f) d' := by
    have hcl : (cut60 f).length ≤ 1048576 ∧ ∀ x ∈ cut60 f, x ∈ f := by
      unfold cut60
      split
      · exact ⟨by rw [List.length_take]; have := hf.1; omega, fun x hx => List.mem_of_mem_take hx⟩
      · exact ⟨hf.1, fun x hx => hx⟩
    have hcl2 : (cut60 f).length ≤ 1048576 := hcl.1
    obtain ⟨d', hd', hc⟩ := change_ev (cut60 f).length raw x_ok hcl2
    have hcc := hc.counts
    have hpc : POK (cut60 f) := pok_mem.2 (fun x hx => pok_mem.1 hp x (hcl.2 x hx))
    obtain ⟨K, hK⟩ := undo_core (cut60 f) d' hpc ⟨hcl.1, fun x hx => (hf.2 x (hcl.2 x hx)).2⟩ (hc.fo.dok (by omega)) (hc.fo.db (by omega) (by omega)) (fun s hs => ⟨by have := (hc.fo.att s hs).1; omega, fun y hy => by have := (hc.fo.att s hs).2 y hy; omega⟩) (by rw [old_units hc.fo.ok, hcc.1]) (by omega)
    obtain ⟨K2, hK2⟩ := hd'
    exact ⟨d', K + K2, fun k hk => ⟨hK2 k (by omega), hK k (by omega)⟩⟩
  obtain ⟨d', K5, h5⟩ := made
  obtain ⟨K0, h0⟩ := he
  obtain ⟨K1, h1⟩ := he1
  by_cases hz : e1 = 0
  · have hok := hei1.1 hz
    obtain ⟨K2, h2⟩ := size_ev d hd.dsm hok
    by_cases hsz : old d = (f.length : Int)
    · have hun : (units d).length ≤ 4194304 := by
        have := units_len2 hok.ok
        have := old_units hok.ok
        have := hd.2.1
        have := hf.1
        omega
      obtain ⟨K3, h3⟩ := undo_core f d hp hf.lb hok hd.db hd.sat hsz hun
      exact ⟨K0 + K1 + K2 + K3, 0, h0 _ (by omega), .inr ⟨rfl, e1, old d, h1 _ (by omega), fun _ => h2 _ (by omega), .inl ⟨hz, hsz, h3 _ (by omega)⟩⟩⟩
    · exact ⟨K0 + K1 + K2 + K5, 0, h0 _ (by omega), .inr ⟨rfl, e1, old d, h1 _ (by omega), fun _ => h2 _ (by omega), .inr ⟨.inr hsz, d', (h5 _ (by omega)).1, (h5 _ (by omega)).2⟩⟩⟩
  · exact ⟨K0 + K1 + K5, 0, h0 _ (by omega), .inr ⟨rfl, e1, 0, h1 _ (by omega), fun h => absurd h hz, .inr ⟨.inl hz, d', (h5 _ (by omega)).1, (h5 _ (by omega)).2⟩⟩⟩
end Go.Proofs.Ytdgemabmmomebaa.PDelta
end

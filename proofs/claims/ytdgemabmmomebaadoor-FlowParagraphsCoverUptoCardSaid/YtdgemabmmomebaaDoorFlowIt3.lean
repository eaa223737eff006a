/- The plain law on paragraphs, and the contract in the row's form. -/
import Derived.Test.YtdgemabmmomebaaDoorFlowIt2
import Derived.Test.YtdgemabmmomebaaDoorFlowA3
namespace Go.Proofs.YtdgemabmmomebaaDoor.PFlow
open Go.RowKit Go.Proofs.YtdgemabmmomebaaDoorW.PrintWords Go.Proofs.YtdgemabmmomebaaDoorW.PrintLast Go.Proofs.YtdgemabmmomebaaDoorW.PrintMore
set_option linter.unusedVariables false
set_option linter.unusedSimpArgs false

/-- Where the last paragraph ends, or s. -/
def lastD (s : Nat) (pre : List (Nat × Nat)) : Nat := (pre.getLast?.map Prod.snd).getD s
theorem lastD_cons (s : Nat) (y : Nat × Nat) (p : List (Nat × Nat)) : lastD s (y :: p) = lastD y.2 p := by
  unfold lastD
  rw [List.getLast?_cons]
  cases p.getLast? <;> rfl
theorem chain_from (ls : List S31) : ∀ (r : List S31) (i fr : Nat), ls.drop i = r → fr ≤ i → i + r.length = ls.length → ∀ p x q, parsFrom i fr r = p ++ x :: q → OkP ls (lastD fr p) x
  | [], i, fr, hd, hf, hl, p, x, q, e => by simp [parsFrom] at e
  | x0 :: r, i, fr, hd, hf, hl, p, x, q, e => by
    simp only [List.length_cons] at hl
    have hlt : i < ls.length := by omega
    have hdr := drop_T31 ls i hlt
    rw [hd] at hdr
    obtain ⟨h0, h1⟩ := List.cons.inj hdr
    rw [parsFrom] at e
    by_cases c : x0.f0 ≠ 10 ∨ x0.f1 ≠ 0
    · rw [if_pos c] at e
      exact chain_from ls r (i + 1) fr h1.symm (by omega) (by omega) p x q e
    · rw [if_neg c] at e
      cases p with
      | nil =>
        obtain ⟨e1, e2⟩ := List.cons.inj e
        subst e1
        refine ⟨rfl, by show fr < i + 1; omega, by show i + 1 ≤ ls.length; omega, ?_⟩
        rw [show (((fr, i + 1) : Nat × Nat).2 : Int) - 1 = (i : Int) from by show ((i + 1 : Nat) : Int) - 1 = (i : Int); omega, ← h0]
        exact Decidable.byContradiction fun h => c (.inl h)
      | cons y p =>
        obtain ⟨e1, e2⟩ := List.cons.inj e
        subst e1
        rw [lastD_cons]
        exact chain_from ls r (i + 1) (i + 1) h1.symm (Nat.le_refl _) (by omega) p x q e2
theorem chain_all (ls : List S31) : Chain ls (parsFrom 0 0 ls) := fun p x q e => chain_from ls ls 0 0 (by simp) (Nat.le_refl _) (by omega) p x q e
theorem pars_length : ∀ (r : List S31) (i fr : Nat), (parsFrom i fr r).length ≤ r.length
  | [], i, fr => by simp [parsFrom]
  | x :: r, i, fr => by
    rw [parsFrom]
    split
    · have := pars_length r (i + 1) fr
      simp only [List.length_cons]
      omega
    · have := pars_length r (i + 1) (i + 1)
      simp only [List.length_cons]
      omega
theorem last_from : ∀ (r : List S31) (i fr : Nat), r ≠ [] → (∀ x, r.getLast? = some x → x.f0 = 10 ∧ x.f1 = 0) → lastD fr (parsFrom i fr r) = i + r.length ∧ (parsFrom i fr r).length ≠ 0
  | [], i, fr, h, _ => absurd rfl h
  | [x], i, fr, _, h => by
    obtain ⟨h0, h1⟩ := h x rfl
    rw [parsFrom, if_neg (fun e => e.elim (fun e => e h0) (fun e => e h1))]
    exact ⟨rfl, by simp⟩
  | x :: y :: r, i, fr, _, h => by
    have hh : ∀ z, (y :: r).getLast? = some z → z.f0 = 10 ∧ z.f1 = 0 := fun z hz => h z (by rw [List.getLast?_cons_cons]; exact hz)
    rw [parsFrom]
    split
    · obtain ⟨a, b⟩ := last_from (y :: r) (i + 1) fr (by simp) hh
      refine ⟨a.trans ?_, b⟩
      simp only [List.length_cons]
      omega
    · obtain ⟨a, b⟩ := last_from (y :: r) (i + 1) (i + 1) (by simp) hh
      rw [lastD_cons]
      refine ⟨a.trans ?_, by simp⟩
      simp only [List.length_cons]
      omega

theorem check_l0 (f : List S31) (hs : FSmall f) (d : Nat) : ∀ i : Int, 0 ≤ i → i ≤ f.length → (f.length : Int) - i = d →
    ∃ r : Int, Ev (fun k => flow_Check.l0 k f true f (f.length : Int) i) r ∧ (r = 0 → (∀ j : Int, i ≤ j → j < f.length → ElemOK (rd_T31 f j)) ∧ f.length ≠ 0 ∧ (rd_T31 f ((f.length : Int) - 1)).f0 = 10) := by
  have hs1 := hs.1
  induction d with
  | zero =>
    intro i h0 h1 hd
    by_cases z : (f.length : Int) = 0
    · exact ⟨11, Ev.step (f := fun _ => some 11) (fun k => by simp only [flow_Check.l0]; rw [if_neg (show ¬ i < (f.length : Int) by omega), if_pos trivial, if_pos z]) (Ev.now 11), fun h => absurd h (by decide)⟩
    · have hw : wrap64 ((f.length : Int) - 1) = (f.length : Int) - 1 := wrap_dn (by omega) (by omega)
      by_cases t : (rd_T31 f ((f.length : Int) - 1)).f0 = 10
      · refine ⟨0, Ev.step (f := fun _ => some 0) (fun k => ?_) (Ev.now 0), fun _ => ⟨fun j h2 h3 => by omega, by omega, t⟩⟩
        simp only [flow_Check.l0]
        rw [hw, if_neg (show ¬ i < (f.length : Int) by omega), if_pos trivial, if_neg z, if_pos (show (0 : Int) ≤ (f.length : Int) - 1 by omega), if_pos (show (f.length : Int) - 1 < (f.length : Int) by omega), if_pos t]
      · refine ⟨11, Ev.step (f := fun _ => some 11) (fun k => ?_) (Ev.now 11), fun h => absurd h (by decide)⟩
        simp only [flow_Check.l0]
        rw [hw, if_neg (show ¬ i < (f.length : Int) by omega), if_pos trivial, if_neg z, if_pos (show (0 : Int) ≤ (f.length : Int) - 1 by omega), if_pos (show (f.length : Int) - 1 < (f.length : Int) by omega), if_neg t]
  | succ d ih =>
    intro i h0 h1 hd
    have hlt : i < (f.length : Int) := by omega
    obtain ⟨e, he, hei⟩ := elem_ev (rd_T31 f i) (hs.2 _ (rdf_mem h0 hlt)).1
    obtain ⟨r, hr, hri⟩ := ih (i + 1) (by omega) (by omega) (by omega)
    by_cases hz : e = 0
    · subst hz
      refine ⟨r, Ev.step (fun k => by simp only [flow_Check.l0]; rw [if_pos hlt, if_pos h0, if_pos hlt, wrap_up h0 (by omega)]) (Ev.bind he (Ev.congr (fun k => by rw [if_pos rfl]; simp only [if_true]) hr)), fun h => ⟨fun j h2 h3 => ?_, (hri h).2⟩⟩
      rcases Int.lt_or_eq_of_le h2 with h4 | h4
      · exact (hri h).1 j (by omega) h3
      · subst h4; exact hei.1 rfl
    · exact ⟨e, Ev.step (fun k => by simp only [flow_Check.l0]; rw [if_pos hlt, if_pos h0, if_pos hlt]) (Ev.bind he (Ev.congr (fun k => by rw [if_neg hz]) (Ev.now e))), fun h => absurd h hz⟩
theorem check_ev (f : List S31) (hs : FSmall f) : ∃ r : Int, Ev (fun k => flow_Check.f k f true) r ∧ (r = 0 → lastTo (parsFrom 0 0 f) = f.length ∧ (parsFrom 0 0 f).length ≠ 0) := by
  obtain ⟨r, hr, h⟩ := check_l0 f hs f.length 0 (by omega) (by omega) (by omega)
  refine ⟨r, hr, fun e => ?_⟩
  obtain ⟨h1, h2, h3⟩ := h e
  have hx := h1 ((f.length : Int) - 1) (by omega) (by omega)
  have hz : (rd_T31 f ((f.length : Int) - 1)).f1 = 0 := by
    rcases hx.1 with a | a
    · rw [h3] at a; exact absurd a.1 (by decide)
    · exact a.1
  have hl : ∀ x, f.getLast? = some x → x.f0 = 10 ∧ x.f1 = 0 := by
    intro x hx
    have : rd_T31 f ((f.length : Int) - 1) = x := by
      rw [List.getLast?_eq_getElem?] at hx
      simp only [rd_T31, List.getD_eq_getElem?_getD]
      rw [show ((f.length : Int) - 1).toNat = f.length - 1 by omega, hx]
      rfl
    rw [← this]
    exact ⟨h3, hz⟩
  have := last_from f 0 0 (fun e => h2 (by rw [e]; rfl)) hl
  rw [Nat.zero_add] at this
  exact this

/-- All that the contract wants to know of the functions called. -/
structure CoverAt (k : Nat) (l0 : List S31) (x0 : Int) : Prop where
  len : l0.length ≤ 1048576
  flows : chancerykeep1_flows.f k = some true
  check : ∃ cc, flow_Check.f k l0 true = some cc ∧ (cc = 0 → lastTo (parsFrom 0 0 l0) = l0.length ∧ (parsFrom 0 0 l0).length ≠ 0)
  stop : ∃ stop, chanceryref1_Within.f x0 0 5 = some stop ∧ 0 ≤ stop ∧ stop ≤ 5
theorem CoverAt.calls (k : Nat) (A0 : Option Addr) (c0 : Nat) (l0 : List S31) (x0 : Int) (r : Bool) (w : World) (hr0 : Kd.C k31 w A0 l0.length l0) (hc0 : l0.length ≤ c0) (h : CoverAt k l0 x0) (hG : Glob w) :
    Calls Tryd.prog 5 #[.slice A0 l0.length c0, .int .i64 x0] w fun e w' => e = .returned (.bool true) ∧ Below w.heap.size w w' := by
  obtain ⟨cc, h1, h2⟩ := h.check
  obtain ⟨st, h3, h4⟩ := h.stop
  exact cover_calls k A0 c0 l0 x0 w h.len hr0 hc0 h.flows cc h1 st h3 h4 hG (chain_all l0) (pars_length l0 0 0) h2
theorem cover_law (f : List S31) (x : Int) (hs : FSmall f) : ∃ k, CoverAt k f x := by
  obtain ⟨c, hc, hci⟩ := check_ev f hs
  obtain ⟨t, ht, t0, t1⟩ := within_ev x 5 (by omega) (by omega)
  obtain ⟨k1, h1⟩ := flows_ev
  obtain ⟨k2, h2⟩ := hc
  exact ⟨max k1 k2, hs.1, h1 _ (Nat.le_max_left _ _), ⟨c, h2 _ (Nat.le_max_right _ _), hci⟩, ⟨t, ht, t0, t1⟩⟩
end Go.Proofs.YtdgemabmmomebaaDoor.PFlow

/- The law of sets, told of the printed functions; and sets as arguments. -/
import Derived.Test.YtdgemabmmomebaaSpanPure2
import Derived.Test.YtdgemabmmomebaaPSpanx5
import Derived.Test.YtdgemabmmomebaaArg
namespace Go.Proofs.Ytdgemabmmomebaa.PSpan
open Go.RowKit Go.Proofs.Ytdgemabmmomebaa.Arg Go.Proofs.YtdgemabmmomebaaW.PrintWords Go.Proofs.YtdgemabmmomebaaW.PrintLast Go.Proofs.YtdgemabmmomebaaW.PrintMore
set_option linter.unusedVariables false

theorem two_ok (W : Bool → Bool → Bool) (hW : W false false = false) {a b : List S29} (ha : Canon a) (hb : Canon b) (la : a.length ≤ 1073741824) (lb : b.length ≤ 1073741824) :
    ∃ r, Ev (fun k => twoF W k a b) (r, 0) ∧ Canon r ∧ ∀ x, 0 ≤ x → mem r x = W (mem a x) (mem b x) := by
  obtain ⟨ea, hea, ia⟩ := chk_ev a (by omega)
  obtain ⟨eb, heb, ib⟩ := chk_ev b (by omega)
  obtain ⟨r, hr, hc, hm⟩ := mrg_ev W hW ha hb la lb
  refine ⟨r, ?_, hc, hm⟩
  have e1 := ia.2 ha
  have e2 := ib.2 hb
  subst e1 e2
  refine Ev.bind hea (Ev.congr (fun k => by rw [if_pos rfl]) (Ev.bind heb (Ev.congr (fun k => by rw [if_pos rfl, if_pos ⟨by omega, by omega⟩]) (Ev.bind hr (Ev.now _)))))
/-- What is refused is refused alike. -/
theorem two_no {a b : List S29} (la : a.length ≤ 1073741824) (lb : b.length ≤ 1073741824) (h : ¬ (Canon a ∧ Canon b)) : ∃ e : Int, e ≠ 0 ∧ ∀ W, Ev (fun k => twoF W k a b) ([], e) := by
  obtain ⟨ea, hea, ia⟩ := chk_ev a (by omega)
  obtain ⟨eb, heb, ib⟩ := chk_ev b (by omega)
  by_cases c : ea = 0
  · have hnb : eb ≠ 0 := fun e => h ⟨ia.1 c, ib.1 e⟩
    exact ⟨eb, hnb, fun W => Ev.bind hea (Ev.congr (fun k => by rw [if_pos c]) (Ev.bind heb (Ev.congr (fun k => by rw [if_neg hnb]) (Ev.now _))))⟩
  · exact ⟨ea, c, fun W => Ev.bind hea (Ev.congr (fun k => by rw [if_neg c]) (Ev.now _))⟩

theorem canon_take {l : List S29} (h : Canon l) (n : Nat) : Canon (l.take n) := ⟨fun s hs => h.1 s (List.mem_of_mem_take hs), h.2.sublist (List.take_sublist _ _)⟩
theorem canon_drop {l : List S29} (h : Canon l) (n : Nat) : Canon (l.drop n) := ⟨fun s hs => h.1 s (List.mem_of_mem_drop hs), h.2.sublist (List.drop_sublist _ _)⟩
theorem sizeL_snoc (l : List S29) (s : S29) : sizeL (l ++ [s]) = sizeL l + (s.f1 - s.f0) := by simp [sizeL]
theorem size_l0 {l : List S29} (h : Canon l) (hl : l.length ≤ 1073741824) (d : Nat) : ∀ (acc i : Int), 0 ≤ i → i ≤ l.length → (l.length : Int) - i = d → acc = sizeL (l.take i.toNat) → Ev (fun k => chancerykeep1_size.l0 k l acc (l.length : Int) i) (sizeL l) := by
  induction d with
  | zero =>
    intro acc i h0 h1 hd hacc
    refine Ev.step (f := fun _ => some (sizeL l)) (fun k => ?_) (Ev.now _)
    simp only [chancerykeep1_size.l0]
    rw [if_neg (by omega), hacc, List.take_of_length_le (by omega)]
  | succ d ih =>
    intro acc i h0 h1 hd hacc
    have hlt : i < (l.length : Int) := by omega
    have hb := size_bd (canon_take h i.toNat)
    have hs := (h.1 _ (rd_mem h0 hlt))
    obtain ⟨s0, s1, s2⟩ := hs
    refine Ev.step (fun k => ?_) (ih (acc + ((rd_T29 l i).f1 - (rd_T29 l i).f0)) (i + 1) (by omega) (by omega) (by omega) ?_)
    · simp only [chancerykeep1_size.l0]
      rw [if_pos hlt, if_pos h0, if_pos hlt, wrap_up h0 (by omega), wrap_in (i := (rd_T29 l i).f1 - (rd_T29 l i).f0) (by omega) (by omega), wrap_in (by omega) (by omega)]
    · rw [show (i + 1).toNat = i.toNat + 1 by omega, List.take_succ_eq_append_getElem (by omega), hacc, sizeL_snoc, rd_get h0 hlt]
theorem size_ev {l : List S29} (h : Canon l) (hl : l.length ≤ 1073741824) : Ev (fun k => chancerykeep1_size.f k l) (sizeL l) := size_l0 h hl l.length 0 0 (by omega) (by omega) (by omega) (by simp [sizeL])

theorem spans_ev : Ev (fun k => chancerykeep1_spans.f k) true := by
  refine Ev.of (fun k => chancerykeep1_spans.mono k) (k := 12) ?_
  decide +kernel

theorem canon_nil {l : List S29} (h : Canon l) (e : ∀ x, 0 ≤ x → mem l x = false) : l = [] := canon_ext h ⟨(fun s hs => by cases hs), List.Pairwise.nil⟩ e
/-- A canonical set has at most 2^30 ranges. -/
theorem canon_len0 {l : List S29} (h : Canon l) : ∀ lo : Int, lo ≤ 2147483648 → (∀ s ∈ l, lo ≤ s.f0) → 2 * (l.length : Int) + lo ≤ 2147483648 := by
  induction l with
  | nil => intro lo h1 _; simp; exact h1
  | cons s l ih =>
    intro lo h1 h2
    obtain ⟨hs, hl, hsl⟩ := canon_cons h
    obtain ⟨s0, s1, s2⟩ := hs
    have a := ih hl (s.f1 + 1) (by omega) (fun t ht => by have := hsl t ht; omega)
    have b := h2 s List.mem_cons_self
    rw [List.length_cons]
    omega
theorem canon_len {l : List S29} (h : Canon l) : l.length ≤ 1073741824 := by
  have := canon_len0 h 0 (by omega) (fun s hs => (h.1 s hs).1)
  omega

theorem sizes_law (a b : List S29) (la : a.length ≤ 1048576) (lb : b.length ≤ 1048576) : ∃ k, chancerykeep1_SpanSizesAdd.f k a b = some true := by
  obtain ⟨ea, hea, ia⟩ := chk_ev a (by omega)
  obtain ⟨eb, heb, ib⟩ := chk_ev b (by omega)
  refine Ev.rounds (Ev.bind spans_ev (Ev.congr (fun k => by rw [if_pos (by decide)]) ?_))
  by_cases hc : Canon a ∧ Canon b
  · obtain ⟨ha, hb⟩ := hc
    obtain ⟨u, hu, cu, mu⟩ := two_ok or rfl ha hb (by omega) (by omega)
    obtain ⟨m, hm, cm, mm⟩ := two_ok and rfl ha hb (by omega) (by omega)
    obtain ⟨n, hn, cn, mnn⟩ := two_ok (fun x y => x && !y) rfl ha hb (by omega) (by omega)
    have e1 := ia.2 ha
    have e2 := ib.2 hb
    subst e1 e2
    -- sizes
    have sa := size_cnt ha
    have sb := size_cnt hb
    have su : sizeL u = cnt (fun x => mem a x || mem b x) BIG := (size_cnt cu).trans (cnt_congr (fun x h => mu x h))
    have sm : sizeL m = cnt (fun x => mem a x && mem b x) BIG := (size_cnt cm).trans (cnt_congr (fun x h => mm x h))
    have sn : sizeL n = cnt (fun x => mem a x && !mem b x) BIG := (size_cnt cn).trans (cnt_congr (fun x h => mnn x h))
    have q1 := cnt_or (mem a) (mem b) BIG
    have q2 := cnt_or (fun x => mem a x && !mem b x) (fun x => mem a x && mem b x) BIG
    have q3 : cnt (fun x => (mem a x && !mem b x) || (mem a x && mem b x)) BIG = cnt (mem a) BIG := cnt_congr (fun x _ => by cases mem a x <;> cases mem b x <;> rfl)
    have q4 : cnt (fun x => (mem a x && !mem b x) && (mem a x && mem b x)) BIG = 0 := cnt_none (fun x _ => by cases mem a x <;> cases mem b x <;> rfl)
    rw [q3, q4, Int.add_zero] at q2
    have f1 : sizeL u + sizeL m = sizeL a + sizeL b := by rw [su, sm, sa, sb]; exact q1
    have f2 : sizeL n + sizeL m = sizeL a := by rw [sn, sm, sa]; exact q2.symm
    clear sa sb su sm sn q1 q2 q3 q4
    have bm := size_bd cm
    have bn := size_bd cn
    have bu := size_bd cu
    have ba := size_bd ha
    have bb := size_bd hb
    obtain ⟨o, ho, co, mo⟩ := two_ok and rfl cn hb (canon_len cn) (by omega)
    obtain ⟨v, hv, cv, mv⟩ := two_ok or rfl cn cm (canon_len cn) (canon_len cm)
    have o_nil : o = [] := canon_nil co (fun x h => by rw [mo x h, mnn x h]; cases mem a x <;> cases mem b x <;> rfl)
    have v_a : v = a := canon_ext cv ha (fun x h => by rw [mv x h, mnn x h, mm x h]; cases mem a x <;> cases mem b x <;> rfl)
    subst o_nil v_a
    refine Ev.bind hu (Ev.bind hm (Ev.bind hn (Ev.bind hea (Ev.congr (fun k => by rw [if_pos rfl]) (Ev.bind heb ?_)))))
    refine Ev.step (fun k => by simp only [chancerykeep1_SpanSizesAdd.j0]; rw [if_neg (by decide)]) ?_
    refine Ev.bind ho (Ev.bind hv (Ev.congr (fun k => by rw [if_pos rfl, if_pos rfl, if_pos trivial, if_pos trivial, if_pos trivial]) ?_))
    refine Ev.step (fun k => by simp only [chancerykeep1_SpanSizesAdd.j1]; rw [if_neg (by simp)]) ?_
    have H : ∀ (d : Nat) (i : Int), 0 ≤ i → i ≤ v.length → (v.length : Int) - i = d → Ev (fun k => chancerykeep1_SpanSizesAdd.l0 k v b u m n [] v (v.length : Int) i) true := by
      intro d
      induction d with
      | zero =>
        intro i h0 h1 hd
        refine Ev.step (fun k => by simp only [chancerykeep1_SpanSizesAdd.l0]; rw [if_neg (by omega)]) ?_
        refine Ev.bind (size_ev cu (canon_len cu)) (Ev.bind (size_ev cm (canon_len cm)) (Ev.bind (size_ev ha (by omega)) (Ev.bind (size_ev hb (by omega)) (Ev.congr (fun k => by
          rw [if_pos (by congr 1)]) (Ev.bind (size_ev cn (canon_len cn)) (Ev.bind (size_ev cm (canon_len cm)) (Ev.bind (size_ev ha (by omega)) (Ev.congr (fun k => ?_) (Ev.now true)))))))))
        rw [if_pos (by rw [wrap_in (by omega) (by omega)]; omega)]
        rfl
      | succ d ih =>
        intro i h0 h1 hd
        have hlt : i < (v.length : Int) := by omega
        refine Ev.step (fun k => ?_) (ih (i + 1) (by omega) (by omega) (by omega))
        simp only [chancerykeep1_SpanSizesAdd.l0]
        rw [if_pos hlt, if_pos h0, if_pos hlt, if_pos hlt, if_neg (by simp), wrap_up h0 (by omega)]
    exact H v.length 0 (by omega) (by omega) (by omega)
  · obtain ⟨e, he, hno⟩ := two_no (a := a) (b := b) (by omega) (by omega) hc
    refine Ev.bind (hno or) (Ev.bind (hno and) (Ev.bind (hno (fun x y => x && !y)) (Ev.bind hea ?_)))
    have fin : Ev (fun k => chancerykeep1_SpanSizesAdd.j0 k a b [] e [] e [] e true) true := by
      refine Ev.step (fun k => ?_) (Ev.now true)
      simp only [chancerykeep1_SpanSizesAdd.j0]
      rw [if_pos (by decide), if_neg he, if_pos trivial]
      simp
    by_cases c : ea = 0
    · refine Ev.congr (fun k => by rw [if_pos c]) (Ev.bind heb ?_)
      have hnb : eb ≠ 0 := fun h => hc ⟨ia.1 c, ib.1 h⟩
      have : (eb != 0) = true := by simpa using hnb
      rw [this]
      exact fin
    · exact Ev.congr (fun k => by rw [if_neg c]) fin

/-! ### sets as arguments -/
def m29 (x : S29) : Nat := 3
theorem opens29 : Opens Try.prog 29 k29 m29 (fun _ => True) :=
  opens_mono (opens_iso (opens_struct Try.underlying29 (by kernel_rfl) (opens_cons (opens_int Try.underlying3) (by kernel_rfl) rfl (opens_one (opens_int Try.underlying3) (by kernel_rfl) rfl))) (fun x : S29 => (x.f0, x.f1)) (fun p => ⟨p.1, p.2⟩) (fun _ => rfl))
    (fun x => by simp [m29]) (fun _ _ => trivial)
theorem fine29 {l : List S29} (h : (l.map m29).sum + 1 ≤ 1048576) (_ : ∀ x ∈ l, True) : l.length ≤ 1048576 := by
  have h1 := sum_len m29 (l := l) (fun x _ => by unfold m29; omega)
  omega
end Go.Proofs.Ytdgemabmmomebaa.PSpan

/- Steps of an axis as units: the writer and the readers. -/
import Derived.Test.YtdgemabmmomebaaAxisU1
import Derived.Test.YtdgemabmmomebaaAxisPlugP1
namespace Go.Proofs.Ytdgemabmmomebaa.PAxis
open Go.RowKit Go.Proofs.YtdgemabmmomebaaW.PrintWords Go.Proofs.YtdgemabmmomebaaW.PrintLast Go.Proofs.YtdgemabmmomebaaW.PrintMore
set_option linter.unusedVariables false
set_option linter.unusedSimpArgs false

def un (k : Int) : Un := if k = 0 then .k else if k = 1 then .a else .c
def K3 (k : Int) : Prop := k = 0 ∨ k = 1 ∨ k = 2
theorem un_inj {a b : Int} (ha : K3 a) (hb : K3 b) (h : un a = un b) : a = b := by
  rcases ha with rfl | rfl | rfl <;> rcases hb with rfl | rfl | rfl <;> first | rfl | (simp [un] at h)
def ex (l : List S97) : List Un := l.flatMap fun s => List.replicate s.f1.toNat (un s.f0)
theorem ex_nil : ex [] = [] := rfl
theorem ex_cons (s : S97) (l : List S97) : ex (s :: l) = List.replicate s.f1.toNat (un s.f0) ++ ex l := by simp [ex]
theorem ex_app (l m : List S97) : ex (l ++ m) = ex l ++ ex m := by simp [ex]
theorem ex_one (s : S97) : ex [s] = List.replicate s.f1.toNat (un s.f0) := by simp [ex]
/-- Steps in their form, after one of kind p. -/
def Fn : Int → List S97 → Prop
  | _, [] => True
  | p, s :: l => K3 s.f0 ∧ 1 ≤ s.f1 ∧ s.f0 ≠ p ∧ ¬ (p = 2 ∧ s.f0 = 1) ∧ Fn s.f0 l
/-- The last kind. -/
def lk : Int → List S97 → Int
  | p, [] => p
  | _, s :: l => lk s.f0 l
theorem lk_app : ∀ (p : Int) (l m : List S97), lk p (l ++ m) = lk (lk p l) m
  | p, [], m => rfl
  | p, s :: l, m => lk_app s.f0 l m
theorem Fn.app : ∀ (p : Int) (l m : List S97), Fn p (l ++ m) ↔ Fn p l ∧ Fn (lk p l) m
  | p, [], m => by simp [Fn, lk]
  | p, s :: l, m => by
    rw [List.cons_append, Fn, Fn, Fn.app s.f0 l m, lk]
    constructor
    · rintro ⟨h1, h2, h3, h4, h5, h6⟩
      exact ⟨⟨h1, h2, h3, h4, h5⟩, h6⟩
    · rintro ⟨⟨h1, h2, h3, h4, h5⟩, h6⟩
      exact ⟨h1, h2, h3, h4, h5, h6⟩
theorem Fn.len : ∀ (p : Int) (l : List S97), Fn p l → l.length ≤ (ex l).length
  | p, [], _ => Nat.le_refl _
  | p, s :: l, h => by
    have := Fn.len s.f0 l h.2.2.2.2
    have h2 := h.2.1
    rw [ex_cons]
    simp only [List.length_append, List.length_replicate, List.length_cons]
    omega
theorem ex_head {p : Int} {s : S97} {l : List S97} (h : Fn p (s :: l)) : ∃ n, ex (s :: l) = un s.f0 :: (List.replicate n (un s.f0) ++ ex l) := by
  obtain ⟨n, hn⟩ : ∃ n, s.f1.toNat = n + 1 := ⟨s.f1.toNat - 1, by have := h.2.1; omega⟩
  exact ⟨n, by rw [ex_cons, hn, List.replicate_succ, List.cons_append]⟩
theorem Fn.starts : ∀ {p : Int} {l : List S97}, Fn p l → K3 p → ∀ r, ex l ≠ un p :: r
  | p, [], _, _, r => by rw [ex_nil]; simp
  | p, s :: l, h, hp, r => by
    obtain ⟨n, e⟩ := ex_head h
    rw [e]
    intro e2
    injection e2 with e2 _
    exact h.2.2.1 (un_inj h.1 hp e2)
theorem Fn.starts2 : ∀ {l : List S97}, Fn 2 l → ∀ r, ex l ≠ .a :: r
  | [], _, r => by rw [ex_nil]; simp
  | s :: l, h, r => by
    obtain ⟨n, e⟩ := ex_head h
    rw [e]
    intro e2
    injection e2 with e2 _
    exact h.2.2.2.1 ⟨rfl, un_inj h.1 (.inr (.inl rfl)) e2⟩
theorem Nm.nil : Nm [] := fun p s e => by
  have := congrArg List.length e
  simp at this
theorem Nm.rep {x : Un} {u : List Un} (h : Nm u) (hx : x = .c → ∀ s, u ≠ .a :: s) : ∀ n : Nat, Nm (List.replicate n x ++ u)
  | 0 => h
  | n + 1 => by
    rw [List.replicate_succ, List.cons_append]
    refine (Nm.rep h hx n).cons (fun e s => ?_)
    cases n with
    | zero => exact hx e s
    | succ n =>
      rw [List.replicate_succ, List.cons_append]
      intro e2
      injection e2 with e2 _
      rw [e] at e2
      cases e2
theorem Fn.nm : ∀ {p : Int} {l : List S97}, Fn p l → Nm (ex l)
  | p, [], _ => Nm.nil
  | p, s :: l, h => by
    rw [ex_cons]
    refine (Fn.nm h.2.2.2.2).rep (fun e t => ?_) _
    have : s.f0 = 2 := un_inj h.1 (.inr (.inr rfl)) e
    have h2 := h.2.2.2.2
    rw [this] at h2
    exact h2.starts2 t
theorem rep_split {x : Un} : ∀ (n m : Nat) (u v : List Un), (∀ r, u ≠ x :: r) → (∀ r, v ≠ x :: r) → List.replicate n x ++ u = List.replicate m x ++ v → n = m ∧ u = v
  | 0, 0, u, v, _, _, h => ⟨rfl, h⟩
  | 0, m + 1, u, v, hu, _, h => by rw [List.replicate_succ, List.cons_append] at h; exact absurd h (hu _)
  | n + 1, 0, u, v, _, hv, h => by rw [List.replicate_succ, List.cons_append] at h; exact absurd h.symm (hv _)
  | n + 1, m + 1, u, v, hu, hv, h => by
    rw [List.replicate_succ, List.cons_append, List.replicate_succ, List.cons_append] at h
    injection h with _ h
    obtain ⟨h1, h2⟩ := rep_split n m u v hu hv h
    exact ⟨by omega, h2⟩
theorem ex_inj : ∀ (l m : List S97) (p q : Int), Fn p l → Fn q m → ex l = ex m → l = m
  | [], [], _, _, _, _, _ => rfl
  | [], t :: m, p, q, _, h, e => by
    obtain ⟨n, e2⟩ := ex_head h
    rw [e2] at e
    cases e
  | s :: l, [], p, q, h, _, e => by
    obtain ⟨n, e2⟩ := ex_head h
    rw [e2] at e
    cases e
  | s :: l, t :: m, p, q, h1, h2, e => by
    obtain ⟨n1, e1⟩ := ex_head h1
    obtain ⟨n2, e2⟩ := ex_head h2
    have hk : s.f0 = t.f0 := by
      rw [e1, e2] at e
      injection e with e _
      exact un_inj h1.1 h2.1 e
    rw [ex_cons, ex_cons, ← hk] at e
    have h2' := h2.2.2.2.2
    rw [← hk] at h2'
    obtain ⟨hn, he⟩ := rep_split _ _ _ _ (h1.2.2.2.2.starts h1.1) (h2'.starts h1.1) e
    have hl := ex_inj l m _ _ h1.2.2.2.2 h2' he
    have hn' : s.f1 = t.f1 := by
      have := h1.2.1
      have := h2.2.1
      omega
    rw [hl]
    congr 1
    cases s; cases t
    simp only at hk hn'
    rw [hk, hn']
theorem same_steps {l m : List S97} {p q : Int} (hl : Fn p l) (hm : Fn q m) (hb : bef (ex l) = bef (ex m)) (h : act (ex l) (rows (bef (ex l))) = act (ex m) (rows (bef (ex l)))) : l = m :=
  ex_inj l m p q hl hm (same_units hl.nm hm.nm hb h)

/-- What a writer holds. -/
def exW (s : WS) : List Un := ex s.out ++ (List.replicate s.add.toNat .a ++ List.replicate s.cut.toNat .c)
structure WFn (s : WS) : Prop where
  fn : Fn (-1) s.out
  last : lk (-1) s.out = -1 ∨ lk (-1) s.out = 0
  add0 : 0 ≤ s.add
  cut0 : 0 ≤ s.cut
theorem exW_nil : exW ⟨[], 0, 0⟩ = [] := rfl
theorem WFn.nil : WFn ⟨[], 0, 0⟩ := ⟨trivial, .inl rfl, Int.le_refl _, Int.le_refl _⟩
theorem app1_ex (l : List S97) (kind n : Int) : ex (app1 l kind n) = ex l ++ List.replicate n.toNat (un kind) := by
  unfold app1
  split
  · rw [ex_app, ex_one]
  · rw [show n.toNat = 0 from by omega, List.replicate_zero, List.append_nil]
theorem app1_lk (p : Int) (l : List S97) (kind n : Int) : lk p (app1 l kind n) = if 0 < n then kind else lk p l := by
  unfold app1
  split
  · rw [lk_app]; rfl
  · rfl
theorem app1_fn {p : Int} {l : List S97} {kind n : Int} (h : Fn p l) (hk : K3 kind) (h1 : lk p l ≠ kind) (h2 : ¬ (lk p l = 2 ∧ kind = 1)) : Fn p (app1 l kind n) := by
  unfold app1
  split
  · rw [Fn.app]
    exact ⟨h, hk, by show 1 ≤ n; omega, fun e => h1 e.symm, h2, trivial⟩
  · exact h
theorem flush_ok {s : WS} (h : WFn s) : Fn (-1) (flushL s.out s.add s.cut) ∧ ex (flushL s.out s.add s.cut) = exW s := by
  have h2 := h.last
  have hl := app1_lk (-1) s.out 1 s.add
  constructor
  · refine app1_fn (app1_fn h.fn (.inr (.inl rfl)) (by omega) (by omega)) (.inr (.inr rfl)) ?_ (by omega)
    rw [hl]
    split <;> omega
  · rw [flushL, app1_ex, app1_ex, exW, List.append_assoc]
    rfl
theorem rd_last (i : List S97) (s : S97) : rd_T97 (i ++ [s]) (((i ++ [s]).length : Int) - 1) = s := by
  simp [rd_T97]
theorem wrap_small {i : Int} (h0 : -1099511627776 ≤ i) (h : i ≤ 1099511627776) : wrap64 i = i := by unfold wrap64; omega
theorem ex_mem_le {l : List S97} {s : S97} (h : s ∈ l) : s.f1.toNat ≤ (ex l).length := by
  obtain ⟨a, b, rfl⟩ := List.append_of_mem h
  rw [ex_app, ex_cons]
  simp only [List.length_append, List.length_replicate]
  omega
theorem keep_ok {o : List S97} {n : Int} (h : Fn (-1) o) (hn : 1 ≤ n) (hs : (ex o).length + n.toNat ≤ 1099511627776) : Fn (-1) (keepL o n) ∧ ex (keepL o n) = ex o ++ List.replicate n.toNat .k ∧ lk (-1) (keepL o n) = 0 := by
  rcases List.eq_nil_or_concat o with rfl | ⟨i, s, rfl⟩
  · refine ⟨⟨.inl rfl, hn, by show (0 : Int) ≠ -1; decide, by show ¬ ((-1 : Int) = 2 ∧ (0 : Int) = 1); decide, trivial⟩, ?_, rfl⟩
    show ex [⟨0, n⟩] = _
    rw [ex_one]
    rfl
  · rw [List.concat_eq_append] at *
    have hm := ex_mem_le (l := i ++ [s]) (s := s) (by simp)
    unfold keepL
    rw [rd_last]
    rw [Fn.app] at h
    obtain ⟨h1, h2, h3, h4, h5, _⟩ := h
    by_cases c : s.f0 = 0
    · rw [if_pos ⟨by simp, c⟩, wrap_small (by omega) (by omega)]
      have e : (i ++ [s]).set ((i ++ [s]).length - 1) ⟨0, s.f1 + n⟩ = i ++ [⟨0, s.f1 + n⟩] := by simp
      rw [e]
      refine ⟨?_, ?_, ?_⟩
      · rw [Fn.app]
        rw [c] at h4 h5
        exact ⟨h1, .inl rfl, by show 1 ≤ s.f1 + n; omega, h4, h5, trivial⟩
      · rw [ex_app, ex_app, ex_one, ex_one, c, List.append_assoc]
        show ex i ++ List.replicate (s.f1 + n).toNat (un 0) = ex i ++ (List.replicate s.f1.toNat (un 0) ++ List.replicate n.toNat (un 0))
        rw [List.replicate_append_replicate, show (s.f1 + n).toNat = s.f1.toNat + n.toNat from by omega]
      · rw [lk_app]; rfl
    · rw [if_neg (fun e => c e.2)]
      refine ⟨?_, ?_, ?_⟩
      · rw [Fn.app, Fn.app]
        exact ⟨⟨h1, h2, h3, h4, h5, trivial⟩, .inl rfl, hn, by rw [lk_app]; exact fun e => c e.symm, by simp, trivial⟩
      · rw [ex_app _ [_], ex_one]
        rfl
      · rw [lk_app]; rfl
theorem exW_len (s : WS) : (exW s).length = (ex s.out).length + s.add.toNat + s.cut.toNat := by
  simp only [exW, List.length_append, List.length_replicate]
  omega
theorem put_ok {s : WS} {kind n : Int} (h : WFn s) (hk : K3 kind) (hn : 0 ≤ n) (hs : (exW s).length + n.toNat ≤ 1099511627776) :
    WFn (putL s kind n) ∧ E (exW (putL s kind n)) (exW s ++ List.replicate n.toNat (un kind)) := by
  unfold putL
  by_cases c0 : n = 0
  · rw [if_pos c0, c0]
    exact ⟨h, by simpa using E.refl _⟩
  rw [if_neg c0]
  have hl := exW_len s
  by_cases c1 : kind = 1
  · rw [if_pos c1, c1]
    have hw : wrap64 (s.add + n) = s.add + n := wrap_small (by have := h.add0; omega) (by have := h.add0; omega)
    rw [hw]
    refine ⟨⟨h.fn, h.last, by show 0 ≤ s.add + n; have := h.add0; omega, h.cut0⟩, ?_⟩
    show E (ex s.out ++ (List.replicate (s.add + n).toNat .a ++ List.replicate s.cut.toNat .c)) (ex s.out ++ (List.replicate s.add.toNat .a ++ List.replicate s.cut.toNat .c) ++ List.replicate n.toNat .a)
    rw [show (s.add + n).toNat = s.add.toNat + n.toNat from by have := h.add0; omega, ← List.replicate_append_replicate, List.append_assoc, List.append_assoc, List.append_assoc]
    exact (E.refl _).app ((E.refl _).app (E.swap _ _).symm)
  rw [if_neg c1]
  by_cases c2 : kind = 2
  · rw [if_pos c2, c2]
    have hw : wrap64 (s.cut + n) = s.cut + n := wrap_small (by have := h.cut0; omega) (by have := h.cut0; omega)
    rw [hw]
    refine ⟨⟨h.fn, h.last, h.add0, by show 0 ≤ s.cut + n; have := h.cut0; omega⟩, ?_⟩
    show E (ex s.out ++ (List.replicate s.add.toNat .a ++ List.replicate (s.cut + n).toNat .c)) (ex s.out ++ (List.replicate s.add.toNat .a ++ List.replicate s.cut.toNat .c) ++ List.replicate n.toNat .c)
    rw [show (s.cut + n).toNat = s.cut.toNat + n.toNat from by have := h.cut0; omega, ← List.replicate_append_replicate, List.append_assoc, List.append_assoc]
    exact E.refl _
  rw [if_neg c2]
  obtain rfl : kind = 0 := by rcases hk with h | h | h <;> omega
  obtain ⟨h1, h2⟩ := flush_ok h
  obtain ⟨h3, h4, h5⟩ := keep_ok (n := n) h1 (by omega) (by rw [h2]; exact hs)
  refine ⟨⟨h3, .inr h5, Int.le_refl _, Int.le_refl _⟩, ?_⟩
  show E (ex (keepL (flushL s.out s.add s.cut) n) ++ []) _
  rw [List.append_nil, h4, h2]
  exact E.refl _
theorem WFn.len {s : WS} (h : WFn s) : s.out.length ≤ (exW s).length := by
  have := Fn.len _ _ h.fn
  have := exW_len s
  omega

/-- A reader that stands in its first step. -/
structure RFn (l : List S97) (u : Int) : Prop where
  fn : ∃ p, Fn p l
  low : 0 ≤ u
  high : ∀ s r, l = s :: r → u < s.f1
  size : (ex l).length ≤ 1099511627776
def exR (l : List S97) (u : Int) : List Un := (ex l).drop u.toNat
theorem RFn.nil : RFn [] 0 := ⟨⟨0, trivial⟩, Int.le_refl _, (fun s r e => by cases e), by rw [ex_nil]; decide⟩
theorem RFn.start {p : Int} {l : List S97} (h : Fn p l) (hs : (ex l).length ≤ 1099511627776) : RFn l 0 := by
  refine ⟨⟨p, h⟩, Int.le_refl _, ?_, hs⟩
  rintro s r rfl
  have := h.2.1
  omega
theorem exR_start (l : List S97) : exR l 0 = ex l := rfl
theorem exR_nil (u : Int) : exR [] u = [] := by simp [exR, ex_nil]
theorem kindL_nil : kindL [] = -1 := rfl
theorem kindL_cons (s : S97) (l : List S97) : kindL (s :: l) = s.f0 := by simp [kindL, rd_T97]
theorem rd_cons (s : S97) (l : List S97) : rd_T97 (s :: l) 0 = s := by simp [rd_T97]
section
variable {s : S97} {l : List S97} {u : Int}
theorem RFn.bound (h : RFn (s :: l) u) : K3 s.f0 ∧ 0 ≤ u ∧ u < s.f1 ∧ s.f1 ≤ 1099511627776 := by
  obtain ⟨p, hp⟩ := h.fn
  refine ⟨hp.1, h.low, h.high _ _ rfl, ?_⟩
  have := ex_mem_le (l := s :: l) (s := s) (by simp)
  have := h.size
  omega
theorem RFn.left (h : RFn (s :: l) u) : leftL (s :: l) u = s.f1 - u := by
  obtain ⟨_, h1, h2, h3⟩ := h.bound
  rw [leftL, rd_cons, wrap_small (by omega) (by omega)]
theorem RFn.exR (h : RFn (s :: l) u) : exR (s :: l) u = List.replicate (s.f1 - u).toNat (un s.f0) ++ ex l := by
  obtain ⟨_, h1, h2, h3⟩ := h.bound
  rw [PAxis.exR, ex_cons, List.drop_append, List.drop_replicate, List.length_replicate, show u.toNat - s.f1.toNat = 0 from by omega, List.drop_zero, show s.f1.toNat - u.toNat = (s.f1 - u).toNat from by omega]
theorem RFn.next (h : RFn (s :: l) u) : RFn l 0 := by
  obtain ⟨p, hp⟩ := h.fn
  refine RFn.start hp.2.2.2.2 ?_
  have := h.size
  rw [ex_cons, List.length_append] at this
  omega
theorem RFn.take (h : RFn (s :: l) u) {n : Int} (h0 : 0 < n) (hn : n ≤ s.f1 - u) :
    RFn (takeL (s :: l) u n) (takeU (s :: l) u n) ∧ PAxis.exR (s :: l) u = List.replicate n.toNat (un s.f0) ++ PAxis.exR (takeL (s :: l) u n) (takeU (s :: l) u n) := by
  obtain ⟨_, h1, h2, h3⟩ := h.bound
  have hw : wrap64 (u + n) = u + n := wrap_small (by omega) (by omega)
  unfold takeL takeU
  rw [rd_cons, hw]
  by_cases c : u + n = s.f1
  · rw [if_pos c, if_pos c]
    refine ⟨h.next, ?_⟩
    rw [h.exR, show s.f1 - u = n from by omega]
    rfl
  · rw [if_neg c, if_neg c]
    have hr : RFn (s :: l) (u + n) := ⟨h.fn, by omega, (fun s' r e => by injection e with e1 _; subst e1; omega), h.size⟩
    refine ⟨hr, ?_⟩
    rw [h.exR, hr.exR, ← List.append_assoc, List.replicate_append_replicate, show n.toNat + (s.f1 - (u + n)).toNat = (s.f1 - u).toNat from by omega]
theorem RFn.all (h : RFn (s :: l) u) : RFn (takeL (s :: l) u (s.f1 - u)) (takeU (s :: l) u (s.f1 - u)) ∧ PAxis.exR (s :: l) u = List.replicate (s.f1 - u).toNat (un s.f0) ++ PAxis.exR (takeL (s :: l) u (s.f1 - u)) (takeU (s :: l) u (s.f1 - u)) := h.take (by have := h.bound; omega) (Int.le_refl _)
end
end Go.Proofs.Ytdgemabmmomebaa.PAxis

/- Parts of the proof of Pair: nothing is claimed here by itself. -/
import Derived.Test.YtdgemabmmomebaaKPair4
import Derived.StillTailTactics
set_option linter.unusedVariables false
set_option linter.unusedSimpArgs false
section
namespace Go.Proofs.Ytdgemabmmomebaa.PDelta
open Go.RowKit Go.Proofs.YtdgemabmmomebaaW.PrintWords Go.Proofs.YtdgemabmmomebaaW.PrintLast Go.Proofs.YtdgemabmmomebaaW.PrintMore
def nold : List Un → Nat
  | [] => 0
  | .add _ :: u => nold u
  | .keep _ :: u => nold u + 1
  | .cut :: u => nold u + 1
def nnew : List Un → Nat
  | [] => 0
  | .cut :: u => nnew u
  | .keep _ :: u => nnew u + 1
  | .add _ :: u => nnew u + 1
theorem nold_app : ∀ a b : List Un, nold (a ++ b) = nold a + nold b
  | [], b => by simp [nold]
  | .add x :: a, b => by simp only [List.cons_append, nold, nold_app a b]
  | .keep t :: a, b => by simp only [List.cons_append, nold, nold_app a b]; omega
  | .cut :: a, b => by simp only [List.cons_append, nold, nold_app a b]; omega
theorem nnew_app : ∀ a b : List Un, nnew (a ++ b) = nnew a + nnew b
  | [], b => by simp [nnew]
  | .add x :: a, b => by simp only [List.cons_append, nnew, nnew_app a b]; omega
  | .keep t :: a, b => by simp only [List.cons_append, nnew, nnew_app a b]; omega
  | .cut :: a, b => by simp only [List.cons_append, nnew, nnew_app a b]
theorem nold_keeps (t : List S38) : ∀ n, nold (List.replicate n (.keep t)) = n
  | 0 => rfl
  | n + 1 => by rw [List.replicate_succ, nold, nold_keeps t n]
theorem nnew_keeps (t : List S38) : ∀ n, nnew (List.replicate n (.keep t)) = n
  | 0 => rfl
  | n + 1 => by rw [List.replicate_succ, nnew, nnew_keeps t n]
theorem nold_cuts : ∀ n, nold (List.replicate n .cut) = n
  | 0 => rfl
  | n + 1 => by rw [List.replicate_succ, nold, nold_cuts n]
theorem nnew_cuts : ∀ n, nnew (List.replicate n .cut) = 0
  | 0 => rfl
  | n + 1 => by rw [List.replicate_succ, nnew, nnew_cuts n]
theorem nold_adds : ∀ l : List S84, nold (l.map .add) = 0
  | [] => rfl
  | x :: l => by rw [List.map_cons, nold, nold_adds l]
theorem nnew_adds : ∀ l : List S84, nnew (l.map .add) = l.length
  | [] => rfl
  | x :: l => by rw [List.map_cons, nnew, nnew_adds l, List.length_cons]
theorem nold_le : ∀ u : List Un, nold u ≤ u.length
  | [] => Nat.le_refl _
  | .add x :: u => by have := nold_le u; simp only [nold, List.length_cons]; omega
  | .keep t :: u => by have := nold_le u; simp only [nold, List.length_cons]; omega
  | .cut :: u => by have := nold_le u; simp only [nold, List.length_cons]; omega
theorem nnew_le : ∀ u : List Un, nnew u ≤ u.length
  | [] => Nat.le_refl _
  | .add x :: u => by have := nnew_le u; simp only [nnew, List.length_cons]; omega
  | .keep t :: u => by have := nnew_le u; simp only [nnew, List.length_cons]; omega
  | .cut :: u => by have := nnew_le u; simp only [nnew, List.length_cons]; omega
theorem run_cuts' : ∀ (n : Nat) (f : List S84), run f (List.replicate n .cut) = ([], f.drop n)
  | 0, f => by simp [run]
  | n + 1, [] => by rw [List.replicate_succ, run, run_cuts' n []]; simp
  | n + 1, x :: f => by rw [List.replicate_succ, run, run_cuts' n f]; simp
structure E (a b : List Un) : Prop where
  run : ∀ f, run f a = run f b
  old : nold a = nold b
  new : nnew a = nnew b
  len : a.length = b.length
theorem E.refl (a : List Un) : E a a := ⟨fun _ => rfl, rfl, rfl, rfl⟩
theorem E.symm {a b : List Un} (h : E a b) : E b a := ⟨fun f => (h.run f).symm, h.old.symm, h.new.symm, h.len.symm⟩
theorem E.trans {a b c : List Un} (h : E a b) (k : E b c) : E a c := ⟨fun f => (h.run f).trans (k.run f), h.old.trans k.old, h.new.trans k.new, h.len.trans k.len⟩
theorem E.app {a b c d : List Un} (h : E a b) (k : E c d) : E (a ++ c) (b ++ d) := ⟨fun f => by rw [run_app, run_app, h.run, k.run], by rw [nold_app, nold_app, h.old, k.old], by rw [nnew_app, nnew_app, h.new, k.new], by rw [List.length_append, List.length_append, h.len, k.len]⟩
theorem E.swap (n : Nat) (l : List S84) : E (List.replicate n .cut ++ l.map .add) (l.map .add ++ List.replicate n .cut) :=
  ⟨fun f => by rw [run_app, run_app, run_cuts', run_adds, run_adds, run_cuts']; simp, by rw [nold_app, nold_app]; omega, by rw [nnew_app, nnew_app]; omega, by rw [List.length_append, List.length_append]; omega⟩
theorem us_len {s : S70} (h : StepOK s) : 1 ≤ (us s).length ∧ s.f1.toNat ≤ (us s).length ∧ s.f3.length ≤ (us s).length := by
  rcases h with h | h | h
  · rw [us_keep h.1, List.length_replicate, h.2.2.2.1]; simp; omega
  · rw [us_add h.1, List.length_map]
    have := List.length_pos_iff.2 h.2.2.2.1
    omega
  · rw [us_cut h.1, List.length_replicate, h.2.2.2.1]; simp; omega
theorem oldS_us {s : S70} (h : StepOK s) : oldS s = (nold (us s) : Int) := by
  rcases h with h | h | h
  · rw [us_keep h.1, nold_keeps]; unfold oldS; rw [if_neg (by omega)]; omega
  · rw [us_add h.1, nold_adds]; unfold oldS; rw [if_pos h.1]; rfl
  · rw [us_cut h.1, nold_cuts]; unfold oldS; rw [if_neg (by omega)]; omega
theorem newS_us {s : S70} (h : StepOK s) : newS s = (nnew (us s) : Int) := by
  rcases h with h | h | h
  · rw [us_keep h.1, nnew_keeps]; unfold newS; rw [if_neg (by omega), if_neg (by omega)]; omega
  · rw [us_add h.1, nnew_adds]; unfold newS; rw [if_neg (by omega), if_pos h.1]
  · rw [us_cut h.1, nnew_cuts]; unfold newS; rw [if_pos h.1]; rfl
theorem old_units : ∀ {d : List S70}, (∀ s ∈ d, StepOK s) → old d = (nold (units d) : Int)
  | [], _ => rfl
  | s :: d, h => by
    rw [old, units_cons, nold_app, oldS_us (h s List.mem_cons_self), old_units (fun x hx => h x (List.mem_cons_of_mem _ hx))]
    omega
theorem new_units : ∀ {d : List S70}, (∀ s ∈ d, StepOK s) → new d = (nnew (units d) : Int)
  | [], _ => rfl
  | s :: d, h => by
    rw [new, units_cons, nnew_app, newS_us (h s List.mem_cons_self), new_units (fun x hx => h x (List.mem_cons_of_mem _ hx))]
    omega
theorem units_len : ∀ {d : List S70}, (∀ s ∈ d, StepOK s) → d.length ≤ (units d).length
  | [], _ => Nat.le_refl _
  | s :: d, h => by
    have h1 := us_len (h s List.mem_cons_self)
    have h2 := units_len (d := d) (fun x hx => h x (List.mem_cons_of_mem _ hx))
    rw [units_cons, List.length_append, List.length_cons]
    omega
theorem units_mem : ∀ {d : List S70}, (∀ s ∈ d, StepOK s) → ∀ s ∈ d, (us s).length ≤ (units d).length
  | [], _, s, hs => by cases hs
  | x :: d, h, s, hs => by
    rw [units_cons, List.length_append]
    rcases List.mem_cons.1 hs with rfl | hs
    · omega
    · have := units_mem (d := d) (fun x hx => h x (List.mem_cons_of_mem _ hx)) s hs
      omega
theorem ord_snoc (x : S70) : ∀ (l : List S70) (p : Option S70), ordOK p (l ++ [x]) ↔ ordOK p l ∧ ∀ q, (l.getLast?.or p) = some q → Adj q x
  | [], p => by simp [ordOK]
  | [y], p => by simp [ordOK]
  | y :: z :: l, p => by
    have : (z :: l).getLast?.or (some y) = (y :: z :: l).getLast?.or p := by simp [List.getLast?_cons_cons, List.getLast?_cons]
    show ((∀ q, p = some q → Adj q y) ∧ ordOK (some y) ((z :: l) ++ [x])) ↔ ((∀ q, p = some q → Adj q y) ∧ ordOK (some y) (z :: l)) ∧ _
    rw [ord_snoc x (z :: l) (some y), this, and_assoc]
def wu (s : WD) : List Un := units s.out ++ s.add.map .add ++ List.replicate s.cut.toNat .cut
def SAt (A : Nat) (s : S70) : Prop := s.f2.length ≤ A ∧ ∀ y ∈ s.f3, y.f2.length ≤ A
structure WF (A : Nat) (s : WD) : Prop where
  ok : ∀ x ∈ s.out, StepOK x
  ord : ordOK none s.out
  last : ∀ x, s.out.getLast? = some x → x.f0 = 0
  add : POK s.add
  cut : 0 ≤ s.cut
  att : ∀ x ∈ s.out, SAt A x
  atta : ∀ y ∈ s.add, y.f2.length ≤ A
theorem WF.nil (A : Nat) : WF A ⟨[], [], 0⟩ := ⟨(fun x hx => by cases hx), trivial, (fun x hx => by cases hx), (fun j h0 h1 => by simp at h1; omega), Int.le_refl _, (fun x hx => by cases hx), (fun x hx => by cases hx)⟩
structure FO (A : Nat) (o : List S70) : Prop where
  ok : ∀ x ∈ o, StepOK x
  ord : ordOK none o
  att : ∀ x ∈ o, SAt A x
theorem FO.dok {A : Nat} {o : List S70} (h : FO A o) (hl : (units o).length ≤ 2147483647) : DOK o := by
  have h1 := nold_le (units o)
  have h2 := nnew_le (units o)
  exact ⟨h.ok, h.ord, by rw [old_units h.ok]; omega, by rw [new_units h.ok]; omega⟩
theorem FO.db {A n : Nat} {o : List S70} (h : FO A o) (hl : (units o).length ≤ n) (ha : A ≤ n) : DB n o := by
  refine ⟨Nat.le_trans (units_len h.ok) hl, fun s hs => ⟨Nat.le_trans (h.att s hs).1 ha, ?_, fun y hy => Nat.le_trans ((h.att s hs).2 y hy) ha⟩⟩
  have h1 := units_mem h.ok s hs
  have h2 := us_len (h.ok s hs)
  omega
theorem wu_len (s : WD) : (wu s).length = (units s.out).length + s.add.length + s.cut.toNat := by simp [wu]; omega
theorem flush_spec {A : Nat} {s : WD} (h : WF A s) (hl : (wu s).length ≤ 2147483647) : FO A (flushD s.out s.add s.cut) ∧ units (flushD s.out s.add s.cut) = wu s ∧ (s.add = [] → s.cut = 0 → flushD s.out s.add s.cut = s.out) ∧
    (flushD s.out s.add s.cut).length ≤ s.out.length + 2 := by
  rw [wu_len] at hl
  have hcut := h.cut
  have h1 : FO A (addD s.out s.add) ∧ units (addD s.out s.add) = units s.out ++ s.add.map .add ∧ (∀ q, (addD s.out s.add).getLast? = some q → q.f0 ≠ 2) := by
    by_cases ha : 0 < s.add.length
    · have e : addD s.out s.add = s.out ++ [⟨1, 0, [], s.add⟩] := if_pos ha
      have hne : s.add ≠ [] := fun h => by rw [h] at ha; cases ha
      rw [e]
      refine ⟨⟨fun x hx => ?_, (ord_snoc _ _ _).2 ⟨h.ord, fun q hq => ?_⟩, fun x hx => ?_⟩, ?_, fun q hq => ?_⟩
      · rcases List.mem_append.1 hx with hx | hx
        · exact h.ok x hx
        · rw [List.mem_singleton.1 hx]; exact .inr (.inl ⟨rfl, rfl, rfl, hne, h.add⟩)
      · rw [Option.or_none] at hq
        have := h.last q hq
        exact ⟨fun h => by have := h.1; simp only at this; omega, fun h => by omega⟩
      · rcases List.mem_append.1 hx with hx | hx
        · exact h.att x hx
        · rw [List.mem_singleton.1 hx]; exact ⟨Nat.zero_le _, h.atta⟩
      · rw [units_app, units_cons, units_nil, List.append_nil]; rfl
      · rw [List.getLast?_append] at hq
        simp at hq
        rw [← hq]
        show (1 : Int) ≠ 2
        decide
    · have e : addD s.out s.add = s.out := if_neg ha
      have hne : s.add = [] := List.eq_nil_of_length_eq_zero (by omega)
      rw [e]
      exact ⟨⟨h.ok, h.ord, h.att⟩, by rw [hne]; simp, fun q hq => by have := h.last q hq; omega⟩
  have hlen1 : (addD s.out s.add).length ≤ s.out.length + 1 := by unfold addD; split <;> simp
  refine ⟨?_, ?_, ?_, ?_⟩
  · unfold flushD cutD
    split
    · refine ⟨fun x hx => ?_, (ord_snoc _ _ _).2 ⟨h1.1.ord, fun q hq => ?_⟩, fun x hx => ?_⟩
      · rcases List.mem_append.1 hx with hx | hx
        · exact h1.1.ok x hx
        · rw [List.mem_singleton.1 hx]; exact .inr (.inr ⟨rfl, by show 1 ≤ s.cut; omega, by show s.cut ≤ 2147483647; omega, rfl, rfl⟩)
      · rw [Option.or_none] at hq
        have := h1.2.2 q hq
        exact ⟨fun h => by have := h.1; simp only at this; omega, fun h => by have := h.2; simp only at this; omega⟩
      · rcases List.mem_append.1 hx with hx | hx
        · exact h1.1.att x hx
        · rw [List.mem_singleton.1 hx]; exact ⟨Nat.zero_le _, fun y hy => by cases hy⟩
    · exact h1.1
  · unfold flushD cutD wu
    split
    · rw [units_app, h1.2.1, units_cons, units_nil, List.append_nil]; rfl
    · rw [h1.2.1, show s.cut.toNat = 0 by omega]; simp
  · intro ha hc
    unfold flushD cutD addD
    rw [ha, hc]
    rfl
  · unfold flushD cutD
    split
    · rw [List.length_append, List.length_singleton]; omega
    · omega
theorem keepO_false (o : List S70) (n : Int) (t : List S38) : keepO o n t false = o ++ [⟨0, n, t, []⟩] := rfl
theorem last_split {o : List S70} (h : 0 < o.length) : ∃ o' x, o = o' ++ [x] ∧ rd_T70 o ((o.length : Int) - 1) = x := by
  refine ⟨o.dropLast, o.getLast (fun h' => by rw [h'] at h; cases h), (List.dropLast_concat_getLast _).symm, ?_⟩
  rw [show (o.length : Int) - 1 = ((o.length - 1 : Nat) : Int) by omega]
  simp only [rd_T70, Int.toNat_natCast, List.getD_eq_getElem?_getD, List.getElem?_eq_getElem (show o.length - 1 < o.length by omega), Option.getD_some, List.getLast_eq_getElem]
def Joins (o : List S70) (t : List S38) : Prop := ∃ o' x, o = o' ++ [x] ∧ rd_T70 o ((o.length : Int) - 1) = x ∧ x.f0 = 0 ∧ x.f2 = t
theorem keep_core {A : Nat} {s : WD} (n : Int) (t : List S38) (h : WF A s) (hv : VA true t) (ht : t.length ≤ A) (hA : A ≤ 1073741824) (h0 : 1 ≤ n) (hl : ((wu s).length : Int) + n ≤ 1073741824)
    (b : Bool) (hbi : b = true ↔ Joins (flushD s.out s.add s.cut) t) : WF A ⟨keepO (flushD s.out s.add s.cut) n t b, [], 0⟩ ∧ wu ⟨keepO (flushD s.out s.add s.cut) n t b, [], 0⟩ = wu s ++ List.replicate n.toNat (.keep t) := by
  obtain ⟨f1, f2, f3, f4⟩ := flush_spec h (by omega)
  have hol := units_len h.ok
  have hwl := wu_len s
  obtain ⟨o, ho⟩ : ∃ o, o = flushD s.out s.add s.cut := ⟨_, rfl⟩
  rw [← ho] at f1 f2 f3 f4 hbi ⊢
  have pnil : POK [] := fun j h0 h1 => by simp at h1; omega
  cases b with
  | true =>
    obtain ⟨o', x, e, ex, hk, hx⟩ := hbi.1 rfl
    have hxok := f1.ok x (by rw [e]; simp)
    have hxat := f1.att x (by rw [e]; simp)
    have hx' : 1 ≤ x.f1 ∧ x.f3 = [] := by rcases hxok with h | h | h <;> first | exact ⟨h.2.1, h.2.2.2.1⟩ | omega
    have hxl : x.f1.toNat ≤ (wu s).length := by
      have h1 := units_mem f1.ok x (by rw [e]; simp)
      have h2 := us_len hxok
      rw [f2] at h1
      omega
    have e2 : keepO o n t true = o' ++ [⟨0, x.f1 + n, t, []⟩] := by
      rw [keepO, ex, e, w64 (by omega) (by omega), hk, hx, hx'.2]
      rw [List.length_append, List.length_singleton, show o'.length + 1 - 1 = o'.length by omega, List.set_append_right _ _ (Nat.le_refl _)]
      simp
    have hord := f1.ord
    rw [e, ord_snoc] at hord
    have hst : StepOK ⟨0, x.f1 + n, t, []⟩ := .inl ⟨rfl, by show 1 ≤ x.f1 + n; omega, by show x.f1 + n ≤ 2147483647; omega, rfl, hv⟩
    refine ⟨⟨fun y hy => ?_, ?_, fun y hy => ?_, pnil, Int.le_refl _, fun y hy => ?_, fun y hy => by cases hy⟩, ?_⟩
    · simp only [e2] at hy
      rcases List.mem_append.1 hy with hy | hy
      · exact f1.ok y (by rw [e]; exact List.mem_append_left _ hy)
      · rw [List.mem_singleton.1 hy]; exact hst
    · simp only [e2]
      refine (ord_snoc _ _ _).2 ⟨hord.1, fun q hq => ?_⟩
      have := hord.2 q hq
      exact ⟨fun h => this.1 ⟨by have := h.1; simp only at this; omega, by rcases h.2 with h | h; exact absurd rfl h; exact .inr (by rw [hx]; exact h)⟩, fun h => by have := h.2; simp only at this; omega⟩
    · simp only [e2] at hy
      rw [List.getLast?_append] at hy
      simp at hy
      rw [← hy]
    · simp only [e2] at hy
      rcases List.mem_append.1 hy with hy | hy
      · exact f1.att y (by rw [e]; exact List.mem_append_left _ hy)
      · rw [List.mem_singleton.1 hy]; exact ⟨ht, fun z hz => by cases hz⟩
    · rw [← f2, wu, e2, e, units_app, units_app, units_cons, units_cons, units_nil, us_keep hk, us_keep (s := ⟨0, x.f1 + n, t, []⟩) rfl, hx]
      simp only [List.map_nil, List.append_nil, Int.toNat_zero, List.replicate_zero, List.append_assoc]
      rw [List.replicate_append_replicate, show (x.f1 + n).toNat = x.f1.toNat + n.toNat by omega]
  | false =>
    have hst : StepOK ⟨0, n, t, []⟩ := .inl ⟨rfl, h0, by show n ≤ 2147483647; omega, rfl, hv⟩
    refine ⟨⟨fun y hy => ?_, ?_, fun y hy => ?_, pnil, Int.le_refl _, fun y hy => ?_, fun y hy => by cases hy⟩, ?_⟩
    · simp only [keepO_false] at hy
      rcases List.mem_append.1 hy with hy | hy
      · exact f1.ok y hy
      · rw [List.mem_singleton.1 hy]; exact hst
    · simp only [keepO_false]
      refine (ord_snoc _ _ _).2 ⟨f1.ord, fun q hq => ?_⟩
      rw [Option.or_none] at hq
      refine ⟨fun h => ?_, fun h => by have := h.2; simp only at this; omega⟩
      have hz : 0 < o.length := by
        cases o with
        | nil => cases hq
        | cons a l => simp
      obtain ⟨o', x, e, ex⟩ := last_split hz
      have : x = q := by rw [e, List.getLast?_append] at hq; simpa using hq
      subst this
      rcases h.2 with h' | h'
      · exact h' rfl
      · have := hbi.2 ⟨o', x, e, ex, h.1, h'⟩
        cases this
    · simp only [keepO_false] at hy
      rw [List.getLast?_append] at hy
      simp at hy
      rw [← hy]
    · simp only [keepO_false] at hy
      rcases List.mem_append.1 hy with hy | hy
      · exact f1.att y hy
      · rw [List.mem_singleton.1 hy]; exact ⟨ht, fun z hz => by cases hz⟩
    · rw [← f2, wu, keepO_false, units_app, units_cons, units_nil, us_keep (s := ⟨0, n, t, []⟩) rfl]
      simp
theorem keep_spec {A : Nat} {s : WD} (n : Int) (t : List S38) (h : WF A s) (hv : VA true t) (ht : t.length ≤ A) (hA : A ≤ 1073741824) (h0 : 1 ≤ n) (hl : ((wu s).length : Int) + n ≤ 1073741824) :
    ∃ s', Ev (fun k => keepF k s n t) s' ∧ WF A s' ∧ wu s' = wu s ++ List.replicate n.toNat (.keep t) := by
  obtain ⟨f1, f2, f3, f4⟩ := flush_spec h (by omega)
  have hol := units_len h.ok
  have hwl := wu_len s
  have core := keep_core n t h hv ht hA h0 hl
  obtain ⟨o, ho⟩ : ∃ o, o = flushD s.out s.add s.cut := ⟨_, rfl⟩
  rw [← ho] at f1 f2 f3 f4 core
  obtain ⟨b, hb, hbi⟩ : ∃ b, Ev (fun k => keepB k o t) b ∧ (b = true ↔ Joins o t) := by
    by_cases hz : 0 < o.length
    · obtain ⟨o', x, e, ex⟩ := last_split hz
      by_cases hk : x.f0 = 0
      · obtain ⟨b, hb, hbi⟩ := asame_ev x.f2 t (by have := (f1.att x (by rw [e]; simp)).1; omega)
        refine ⟨b, Ev.congr (fun k => by unfold keepB; rw [if_pos hz, ex, if_pos hk]) hb, hbi.trans ⟨fun h => ⟨o', x, e, ex, hk, h⟩, fun ⟨o2, x2, e2, ex2, _, h⟩ => by rw [← ex, ex2]; exact h⟩⟩
      · exact ⟨false, Ev.congr (fun k => by unfold keepB; rw [if_pos hz, ex, if_neg hk]) (Ev.now false), ⟨(fun h => by cases h), fun ⟨o2, x2, e2, ex2, h, _⟩ => absurd (by rw [← ex, ex2]; exact h) hk⟩⟩
    · exact ⟨false, Ev.congr (fun k => by unfold keepB; rw [if_neg hz]) (Ev.now false), ⟨(fun h => by cases h), fun ⟨o2, x2, e2, _⟩ => absurd (by rw [e2]; simp) hz⟩⟩
  exact ⟨⟨keepO o n t b, [], 0⟩, Ev.congr (fun k => by unfold keepF; rw [if_neg (by omega), if_neg (by omega), ← ho]) (Ev.bind hb (Ev.now _)), core b hbi⟩
theorem dofB_ev {A : Nat} {o : List S70} (t : List S38) (h : FO A o) (hA : A ≤ 1073741824) : ∃ b, Ev (fun k => dofB k o t) b ∧ (b = true ↔ Joins o t) := by
  by_cases hz : 0 < o.length
  · obtain ⟨o', x, e, ex⟩ := last_split hz
    by_cases hk : x.f0 = 0
    · obtain ⟨b, hb, hbi⟩ := rsame_ev x.f2 t (by have := (h.att x (by rw [e]; simp)).1; omega)
      refine ⟨b, Ev.congr (fun k => by unfold dofB; rw [if_pos hz, ex, if_pos hk]) hb, hbi.trans ⟨fun h => ⟨o', x, e, ex, hk, h⟩, fun ⟨o2, x2, e2, ex2, _, h⟩ => by rw [← ex, ex2]; exact h⟩⟩
    · exact ⟨false, Ev.congr (fun k => by unfold dofB; rw [if_pos hz, ex, if_neg hk]) (Ev.now false), ⟨(fun h => by cases h), fun ⟨o2, x2, e2, ex2, h, _⟩ => absurd (by rw [← ex, ex2]; exact h) hk⟩⟩
  · exact ⟨false, Ev.congr (fun k => by unfold dofB; rw [if_neg hz]) (Ev.now false), ⟨(fun h => by cases h), fun ⟨o2, x2, e2, _⟩ => absurd (by rw [e2]; simp) hz⟩⟩
theorem pok_app {a b : List S84} (ha : POK a) (hb : POK b) : POK (a ++ b) := pok_mem.2 (fun x hx => by rcases List.mem_append.1 hx with hx | hx; exact pok_mem.1 ha x hx; exact pok_mem.1 hb x hx)
theorem elems_spec {A : Nat} {s : WD} (l : List S84) (h : WF A s) (hp : POK l) (hat : ∀ y ∈ l, y.f2.length ≤ A) (hA : A ≤ 1073741824) (hl : (wu s).length + l.length ≤ 1073741824) :
    ∃ s', Ev (fun k => elemsF k s l) s' ∧ WF A s' ∧ E (wu s') (wu s ++ l.map .add) := by
  have hwl := wu_len s
  have hfs : FSmall l := fsmall (n := 1073741824) hp ⟨by omega, fun x hx => Nat.le_trans (hat x hx) hA⟩ (Nat.le_refl _)
  refine ⟨⟨s.out, s.add ++ l, s.cut⟩, Ev.bind (copy_ev l hfs) (Ev.congr (fun k => by rw [if_neg (by omega)]) (Ev.now _)), ⟨h.ok, h.ord, h.last, pok_app h.add hp, h.cut, h.att, fun y hy => ?_⟩, ?_⟩
  · rcases List.mem_append.1 hy with hy | hy
    · exact h.atta y hy
    · exact hat y hy
  · have := (E.refl (units s.out ++ s.add.map .add)).app (E.swap s.cut.toNat l).symm
    simpa [wu, List.append_assoc] using this
theorem cut_spec {A : Nat} {s : WD} (n : Int) (h : WF A s) (h0 : 0 ≤ n) : WF A ⟨s.out, s.add, s.cut + n⟩ ∧ wu ⟨s.out, s.add, s.cut + n⟩ = wu s ++ List.replicate n.toNat .cut := by
  have := h.cut
  refine ⟨⟨h.ok, h.ord, h.last, h.add, by show 0 ≤ s.cut + n; omega, h.att, h.atta⟩, ?_⟩
  simp only [wu, List.append_assoc, List.replicate_append_replicate]
  rw [show (s.cut + n).toNat = s.cut.toNat + n.toNat by omega]
theorem done_spec {A : Nat} {s : WD} (h : WF A s) (hA : A ≤ 1073741824) (hl : (wu s).length ≤ 1073741824) : ∃ o, Ev (fun k => doneD k s) (o, 0) ∧ FO A o ∧ units o = wu s := by
  obtain ⟨f1, f2, f3, f4⟩ := flush_spec h (by omega)
  have hol := units_len h.ok
  have hwl := wu_len s
  have hd := f1.dok (by rw [f2]; omega)
  obtain ⟨r, hr, hri⟩ := check_ev _ (dsm f1.ok (f1.db (n := 1073741824) (by rw [f2]; omega) hA) (Nat.le_refl _))
  obtain rfl := hri.2 hd
  exact ⟨_, Ev.congr (fun k => by unfold doneD; rw [if_neg (by omega)]) (Ev.bind hr (Ev.congr (fun k => by rw [if_neg (by decide)]) (Ev.now _))), f1, f2⟩
structure DiceSt (w0 : World) (g : Nat) (raw : List Int) (u : Nat) (w : World) : Prop where
  ex : ∃ (A : Option Addr) (c : Nat), w.heap[g]? = some (.cells #[.slice A raw.length c, .int .i64 (u : Int)] 100 (0, 0)) ∧ Kd.C (Kd.int .i64) w0 A raw.length raw ∧ raw.length ≤ c
theorem wrap_mid {i : Int} (h0 : 0 ≤ i) (h : i ≤ 4611686018427387904) : wrap64 i = i := by unfold wrap64; omega
theorem wrap_k {i : Int} (h0 : 0 ≤ i) (h : i ≤ 4611686018427387904) : IntKind.i64.wrap i = i := by rw [i64_w]; exact wrap_mid h0 h
theorem add_block (a : Addr) (n : Nat) : (a.add n).block = a.block := by unfold Go.Addr.add; split <;> rfl
def rollF (raw : List Int) (u : Nat) (n : Int) : Option Int :=
  if raw.length = 0 then some 0 else chanceryref1_Within.f (wrap64 (rd raw ((u % raw.length : Nat) : Int) + (((u + 1) / raw.length : Nat) : Int))) 0 (wrap64 (n - 1))
def rollU (raw : List Int) (u : Nat) : Nat := if raw.length = 0 then u else u + 1
set_option maxRecDepth 100000 in
set_option maxHeartbeats 4000000 in
theorem roll_calls (w0 : World) (g : Nat) (raw : List Int) (u : Nat) (n r : Int) (w : World) (h0 : w0.heap.size ≤ g) (h : DiceSt w0 g raw u w) (hB : Below w0.heap.size w0 w) (hu : u < 4611686018427387904) (hf : rollF raw u n = some r) :
    Calls Try.prog 70 #[.pointer (some ⟨g, 0, none⟩), .int .i64 n] w fun e w' => e = .returned (.int .i64 r) ∧ DiceSt w0 g raw (rollU raw u) w' ∧ (w.heap.size ≤ w'.heap.size ∧ ∀ k, k < w.heap.size → k ≠ g → w'.heap[k]? = w.heap[k]?) ∧ Below w0.heap.size w0 w' := by
  have hu100 := Try.underlying100
  obtain ⟨A, c, hb, hC, hc⟩ := h.ex
  have hc0 : w.cell? ⟨g, 0, none⟩ = some (.slice A raw.length c) := (blk_cell hb 0).trans rfl
  have hc1 : w.cell? ⟨g, 1, none⟩ = some (.int .i64 (u : Int)) := (blk_cell hb 1).trans rfl
  have hf1 := blk_frozen hb 1
  have HB := Aside0.mk hB
  have HC := Aside0.mk hC
  have HBL := Aside0.mk hb
  have HCC := Aside0.mk hc
  have H0 := Aside0.mk h0
  have HS := Aside0.mk h
  clear h hb hC hB hc h0
  by_cases c1 : raw.length = 0
  · have e' : rollU raw u = u := if_pos c1
    rw [rollF, if_pos c1] at hf
    injection hf with hf
    subst hf
    have c1b : ((raw.length : Int) == 0) = true := beq_iff_eq.mpr (by omega)
    have c1c : (raw.length == 0) = true := beq_iff_eq.mpr c1
    rw [e']
    clear e' c1
    go_enter Try.func70, Try.ntmps70
    go_wp2
    first | go_ret | go_ret2
    exact ⟨rfl, HS.out, ⟨Nat.le_refl _, fun _ _ _ => rfl⟩, HB.out⟩
  · have e' : rollU raw u = u + 1 := if_neg c1
    rw [rollF, if_neg c1] at hf
    have c1b : ((raw.length : Int) == 0) = false := beq_eq_false_iff_ne.mpr (by omega)
    have c1c : (raw.length == 0) = false := beq_eq_false_iff_ne.mpr c1
    rw [e']
    have hlen : 0 < raw.length := by omega
    have hm' : u % raw.length < raw.length := Nat.mod_lt _ hlen
    have hmu : u % raw.length ≤ u := Nat.mod_le _ _
    have hqu : (u + 1) / raw.length ≤ u + 1 := Nat.div_le_self _ _
    have t1 : Int.tmod (u : Int) (raw.length : Int) = ((u % raw.length : Nat) : Int) := rfl
    have t2 : Int.tdiv ((u : Int) + 1) (raw.length : Int) = (((u + 1) / raw.length : Nat) : Int) := rfl
    obtain ⟨m, hm⟩ : ∃ m, m = u % raw.length := ⟨_, rfl⟩
    obtain ⟨q, hq⟩ : ∃ q, q = (u + 1) / raw.length := ⟨_, rfl⟩
    rw [← hm] at t1 hf hm' hmu
    rw [← hq] at t2 hf hqu
    clear hm hq
    obtain ⟨ad0, e0, hx0⟩ := Kd.at_int HC.out (m : Int) (by omega) (by omega)
    cases e0
    have HGN : Aside0 (g ≠ ad0.block) := ⟨fun e => by have := World.block_lt_of_cell? w0 _ hx0; have := H0.out; rw [add_block] at *; omega⟩
    replace hx0 := (HB.out.cell (World.block_lt_of_cell? w0 _ hx0)).trans hx0
    replace hx0 := (World.cell?_setCell_far w ⟨g, 1, none⟩ (ad0.add ((m : Int)).toNat) (.int .i64 ((u : Int) + 1)) (by rw [add_block]; exact HGN.out)).trans hx0
    simp only [Int.toNat_natCast] at hx0
    have w1 : wrap64 ((u : Int) + 1) = (u : Int) + 1 := wrap_mid (by omega) (by omega)
    have w2 : wrap64 (((u : Int) + 1) - 1) = (u : Int) := by rw [Int.add_sub_cancel]; exact wrap_mid (by omega) (by omega)
    have w3 : IntKind.i64.wrap (u : Int) = (u : Int) := wrap_k (by omega) (by omega)
    have w5 : IntKind.i64.wrap (m : Int) = (m : Int) := wrap_k (by omega) (by omega)
    have w6 : IntKind.i64.wrap (q : Int) = (q : Int) := wrap_k (by omega) (by omega)
    have HF := Aside0.mk hf
    have q0 : (m : Int) < (raw.length : Int) := by omega
    have q1 : m < raw.length := by omega
    have c1d : ¬ ((raw.length : Int) = 0) := by omega
    clear e' hf hu hmu hqu
    go_enter Try.func70, Try.ntmps70
    go_wp2
    refine wp_region_still_tail 30 (by kernel_rfl) (by kernel_rfl) ?_
    simp only [List.take_succ_cons, List.take_zero, List.drop_succ_cons, List.drop_zero]
    change wpStill _ _ (World.drew _) (fun a' => wpList _ _ _ _ a' (World.drew _)) _ _
    repeat still_step
    refine wpStill_nil ?_
    go_wp2_with (go_at_call 32; (with_reducible refine (chanceryref1_Within.calls _ _ _ r _ HF.out).mono ?_); rintro e1 w5 ⟨rfl, hd⟩; have HDR := Aside0.mk hd; clear hd)
    first | go_ret | go_ret2
    have hs : w.heap.size = (w.setCell ⟨g, 1, none⟩ (.int .i64 ((u : Int) + 1))).heap.size := by simp [World.setCell]
    have hbb := Below.refl (w.setCell ⟨g, 1, none⟩ (.int .i64 ((u : Int) + 1))).heap.size (w.setCell ⟨g, 1, none⟩ (.int .i64 ((u : Int) + 1)))
    have hbd := below_step (below_drew1 hbb) HDR.out.below
    refine ⟨rfl, ⟨_, _, (hbd.block g (by rw [← hs]; exact blk_lt HBL.out)).trans (blk_put HBL.out 1 _ rfl), HC.out, HCC.out⟩, ⟨by rw [hs]; exact hbd.size, fun k hk hg => ?_⟩, below_step (below_set HB.out H0.out) hbd⟩
    rw [hbd.block k (by rw [← hs]; exact hk), Below.heap_setCell _ _ _ _ hg]
def sOn : ByteArray := ⟨#[111, 110]⟩
def sBold : ByteArray := ⟨#[98, 111, 108, 100]⟩
def sNil : ByteArray := ⟨#[]⟩
def onL (name : ByteArray) : List S38 := [⟨name, sOn⟩]
def addsL (i : Nat) (name : ByteArray) : Nat → List S84
  | 0 => []
  | j + 1 => addsL i name j ++ [⟨65 + ((i + j) % 26 : Nat), 0, onL name⟩]
def attrsL (y : Int) (name : ByteArray) : List S38 := if y = 1 then onL sBold else if y = 2 then [⟨sBold, sNil⟩] else if y = 3 then [⟨sBold, name⟩, ⟨name, sOn⟩] else []
def chL (raw : List Int) (name : ByteArray) : Nat → Nat → Nat → List (List S84) → List Bool → List (List S38) → Option (List (List S84) × List Bool × List (List S38))
  | 0, i, u, As, Cs, Ts => (rollF raw u 8).bind fun x => some (As ++ [addsL i name (x - 5).toNat], Cs, Ts)
  | m + 1, i, u, As, Cs, Ts => (rollF raw u 8).bind fun x => (rollF raw (rollU raw u) 8).bind fun y => (rollF raw (rollU raw (rollU raw u)) 8).bind fun z =>
    chL raw name m (i + 1) (rollU raw (rollU raw (rollU raw u))) (As ++ [addsL i name (x - 5).toNat]) (Cs ++ [z == 0]) (Ts ++ [attrsL y name])
def changeF (k : Nat) (n : Int) (raw : List Int) (name : ByteArray) : Option (List S70) :=
  if 0 ≤ n ∧ n ≤ 1048576 then (chL raw name n.toNat 0 0 [] [] []).bind fun t => dofL k t.1 t.2.1 t.2.2 [] [] 0 else none
structure ChS (w : World) (ga gd : Nat) (raw : List Int) (n : Nat) (As : List (List S84)) (Cs : List Bool) (Ts : List (List S38)) (cA cB cC vA vB vC u : Value) (wr : World) : Prop where
  lga : w.heap.size ≤ ga
  lgd : w.heap.size ≤ gd
  bk : wr.heap[ga]? = some (.cells #[cA, cB, cC] 123 (0, 0))
  rA : Kd.R (Kd.slice 84 k84) 63 wr w.heap.size (fun k => True ∧ some k ≠ u.ownBlock) vA As
  rB : Kd.R Kd.bool 4 wr w.heap.size (fun _ => True) vB Cs
  rC : Kd.R (Kd.slice 38 k38) 32 wr w.heap.size (fun _ => True) vC Ts
  dice : DiceSt w gd raw n wr
  bel : Below w.heap.size w wr
section
variable {w wr w1 : World} {ga gd n : Nat} {raw : List Int} {As As' : List (List S84)} {Cs Cs' : List Bool} {Ts Ts' : List (List S38)} {cA cB cC vA vB vC u u1 v1 lv : Value} {al al' : List S84} {l : List S38}
theorem DiceSt.block (h : DiceSt w gd raw n wr) (hb : w1.heap[gd]? = wr.heap[gd]?) : DiceSt w gd raw n w1 := by
  obtain ⟨A, c, hk, hC, hc⟩ := h.ex
  exact ⟨A, c, hb.trans hk, hC, hc⟩
theorem DiceSt.typed (h : DiceSt w gd raw n wr) : ∃ cs, wr.heap[gd]? = some (.cells cs 100 (0, 0)) := by
  obtain ⟨A, c, hk, hC, hc⟩ := h.ex
  exact ⟨_, hk⟩
theorem ChS.below (h : ChS w ga gd raw n As Cs Ts cA cB cC vA vB vC u wr) (hb : Below wr.heap.size wr w1) : ChS w ga gd raw n As Cs Ts cA cB cC vA vB vC u w1 := by
  obtain ⟨cs, hd⟩ := h.dice.typed
  exact ⟨h.lga, h.lgd, (hb.block _ (blk_lt h.bk)).trans h.bk, Kd.R_below h.rA hb, Kd.R_below h.rB hb, Kd.R_below h.rC hb, h.dice.block (hb.block _ (blk_lt hd)), below_step h.bel hb⟩
theorem ChS.drew (h : ChS w ga gd raw n As Cs Ts cA cB cC vA vB vC u wr) : ChS w ga gd raw n As Cs Ts cA cB cC vA vB vC u wr.drew := h.below (below_drew1 (Below.refl _ _))
theorem r_keep {α : Type} {d : Kd α} {e t : Nat} {base : Nat} {ok : Nat → Prop} {v : Value} {xs : List α} {cs : Array Value} {g : Nat} (h : d.R e wr base ok v xs) (hg : wr.heap[g]? = some (.cells cs t (0, 0))) (ht : ∀ q, q ∈ e :: d.E → q ≠ t) (hfr : ∀ k, k < wr.heap.size → k ≠ g → w1.heap[k]? = wr.heap[k]?) : d.R e w1 base ok v xs :=
  Kd.R_mono (Kd.R_step (Kd.R_types h hg ht) (fun k hk hlt => hfr k hlt hk.2)) (fun _ hk => hk.1)
theorem r_other {α β : Type} {d : Kd α} {d' : Kd β} {e e' : Nat} {base base' : Nat} {ok ok' : Nat → Prop} {v v' : Value} {xs : List α} {ys : List β} (h : d.R e wr base ok v xs) (h' : d'.R e' wr base' ok' v' ys) (ht : ∀ q, q ∈ e :: d.E → q ≠ e') (hg : wr.grownBy w1 v'.ownBlock) : d.R e w1 base ok v xs :=
  Kd.R_mono (Kd.R_grown (Kd.R_apartR h h' ht) hg (fun _ hk => hk.2)) (fun _ hk => hk.1)
theorem ChS.rolled (h : ChS w ga gd raw n As Cs Ts cA cB cC vA vB vC u wr) (hd : DiceSt w gd raw (rollU raw n) w1) (hfr : ∀ k, k < wr.heap.size → k ≠ gd → w1.heap[k]? = wr.heap[k]?) (hb : Below w.heap.size w w1) : ChS w ga gd raw (rollU raw n) As Cs Ts cA cB cC vA vB vC u w1 := by
  obtain ⟨cs, hgd⟩ := h.dice.typed
  have hne : ga ≠ gd := fun e => by have := h.bk; rw [e, hgd] at this; injection this with this; injection this with _ this; exact absurd this (by decide)
  exact ⟨h.lga, h.lgd, (hfr _ (blk_lt h.bk) hne).trans h.bk, r_keep h.rA hgd (by decide) hfr, r_keep h.rB hgd (by decide) hfr, r_keep h.rC hgd (by decide) hfr, hd, hb⟩
theorem ChS.roll_calls (h : ChS w ga gd raw n As Cs Ts cA cB cC vA vB vC u wr) (hu : n < 4611686018427387904) {x : Int} (hf : rollF raw n 8 = some x) :
    Calls Try.prog 70 #[.pointer (some ⟨gd, 0, none⟩), .int .i64 8] wr fun e w' => e = .returned (.int .i64 x) ∧ (ChS w ga gd raw (rollU raw n) As Cs Ts cA cB cC vA vB vC u w' ∧ (∀ k, k < wr.heap.size → k ≠ gd → w'.heap[k]? = wr.heap[k]?) ∧ wr.heap.size ≤ w'.heap.size) := by
  refine (PDelta.roll_calls w gd raw n 8 x wr h.lgd h.dice h.bel hu hf).mono ?_
  rintro e w' ⟨rfl, hd, ⟨hs, hfr⟩, hb⟩
  exact ⟨rfl, h.rolled hd hfr hb, hfr, hs⟩
theorem ChS.appU (h : ChS w ga gd raw n As Cs Ts cA cB cC vA vB vC u wr) (hu : Kd.R k84 84 wr w.heap.size (fun _ => True) u al) (hg : wr.grownBy w1 u.ownBlock) (hat : u1.ownBlock = u.ownBlock ∨ ∃ b, u1.ownBlock = some b ∧ wr.heap.size ≤ b) (hb : Below w.heap.size w w1) :
    ChS w ga gd raw n As Cs Ts cA cB cC vA vB vC u1 w1 := by
  obtain ⟨cs, hgd⟩ := h.dice.typed
  exact ⟨h.lga, h.lgd, blk_grown h.bk hg (Kd.R_ne hu h.bk (by decide)), Kd.R_after h.rA hg hat, r_other h.rB hu (by decide) hg, r_other h.rC hu (by decide) hg, h.dice.block (hg.block _ (blk_lt hgd) (Kd.R_ne hu hgd (by decide))), hb⟩
theorem ChS.appA (h : ChS w ga gd raw n As Cs Ts cA cB cC vA vB vC u wr) (hR : Kd.R (Kd.slice 84 k84) 63 w1 w.heap.size (fun _ => True) v1 As') (hg : wr.grownBy w1 vA.ownBlock) (hb : Below w.heap.size w w1) :
    ChS w ga gd raw n As' Cs Ts cA cB cC v1 vB vC (.slice none 0 0) w1 := by
  obtain ⟨cs, hgd⟩ := h.dice.typed
  exact ⟨h.lga, h.lgd, blk_grown h.bk hg (Kd.R_ne h.rA h.bk (by decide)), Kd.R_mono hR (fun _ _ => ⟨trivial, by simp [Value.ownBlock]⟩), r_other h.rB h.rA (by decide) hg, r_other h.rC h.rA (by decide) hg, h.dice.block (hg.block _ (blk_lt hgd) (Kd.R_ne h.rA hgd (by decide))), hb⟩
theorem ChS.appB (h : ChS w ga gd raw n As Cs Ts cA cB cC vA vB vC u wr) (hR : Kd.R Kd.bool 4 w1 w.heap.size (fun _ => True) v1 Cs') (hg : wr.grownBy w1 vB.ownBlock) (hb : Below w.heap.size w w1) :
    ChS w ga gd raw n As Cs' Ts cA cB cC vA v1 vC u w1 := by
  obtain ⟨cs, hgd⟩ := h.dice.typed
  exact ⟨h.lga, h.lgd, blk_grown h.bk hg (Kd.R_ne h.rB h.bk (by decide)), r_other h.rA h.rB (by decide) hg, hR, r_other h.rC h.rB (by decide) hg, h.dice.block (hg.block _ (blk_lt hgd) (Kd.R_ne h.rB hgd (by decide))), hb⟩
theorem ChS.appC (h : ChS w ga gd raw n As Cs Ts cA cB cC vA vB vC u wr) (hR : Kd.R (Kd.slice 38 k38) 32 w1 w.heap.size (fun _ => True) v1 Ts') (hg : wr.grownBy w1 vC.ownBlock) (hb : Below w.heap.size w w1) :
    ChS w ga gd raw n As Cs Ts' cA cB cC vA vB v1 u w1 := by
  obtain ⟨cs, hgd⟩ := h.dice.typed
  exact ⟨h.lga, h.lgd, blk_grown h.bk hg (Kd.R_ne h.rC h.bk (by decide)), r_other h.rA h.rC (by decide) hg, r_other h.rB h.rC (by decide) hg, hR, h.dice.block (hg.block _ (blk_lt hgd) (Kd.R_ne h.rC hgd (by decide))), hb⟩
theorem ChS.set (h : ChS w ga gd raw n As Cs Ts cA cB cC vA vB vC u wr) (j : Nat) (x a b c : Value) (e : (#[cA, cB, cC] : Array Value).setIfInBounds j x = #[a, b, c]) :
    ChS w ga gd raw n As Cs Ts a b c vA vB vC u (wr.setCell ⟨ga, j, none⟩ x) := by
  obtain ⟨cs, hgd⟩ := h.dice.typed
  have hne : gd ≠ ga := fun e => by have := h.bk; rw [← e, hgd] at this; injection this with this; injection this with _ this; exact absurd this (by decide)
  exact ⟨h.lga, h.lgd, blk_put h.bk j x e, Kd.R_set h.rA h.bk (by decide) j x, Kd.R_set h.rB h.bk (by decide) j x, Kd.R_set h.rC h.bk (by decide) j x, h.dice.block (Below.heap_setCell _ _ _ _ hne), below_set h.bel h.lga⟩
end
def chR (raw : List Int) (name : ByteArray) : Nat → Nat → Nat → List (List S84) → List Bool → List (List S38) → Option (List (List S84) × List Bool × List (List S38))
  | 0, i, u, As, Cs, Ts => some (As, Cs, Ts)
  | m + 1, i, u, As, Cs, Ts => (rollF raw (rollU raw u) 8).bind fun y => (rollF raw (rollU raw (rollU raw u)) 8).bind fun z =>
    chL raw name m (i + 1) (rollU raw (rollU raw (rollU raw u))) As (Cs ++ [z == 0]) (Ts ++ [attrsL y name])
theorem chL_eq (raw : List Int) (name : ByteArray) (m i u : Nat) (As : List (List S84)) (Cs : List Bool) (Ts : List (List S38)) :
    chL raw name m i u As Cs Ts = (rollF raw u 8).bind fun x => chR raw name m i u (As ++ [addsL i name (x - 5).toNat]) Cs Ts := by cases m <;> rfl
theorem chL_len (raw : List Int) (name : ByteArray) : ∀ (m i u : Nat) (As : List (List S84)) (Cs : List Bool) (Ts : List (List S38)) (t : List (List S84) × List Bool × List (List S38)), chL raw name m i u As Cs Ts = some t →
    t.1.length = As.length + m + 1 ∧ t.2.1.length = Cs.length + m ∧ t.2.2.length = Ts.length + m
  | 0, i, u, As, Cs, Ts, t, h => by
    obtain ⟨x, _, h⟩ := Option.bind_eq_some_iff.1 h
    injection h with h
    subst h
    simp
  | m + 1, i, u, As, Cs, Ts, t, h => by
    obtain ⟨x, _, h⟩ := Option.bind_eq_some_iff.1 h
    obtain ⟨y, _, h⟩ := Option.bind_eq_some_iff.1 h
    obtain ⟨z, _, h⟩ := Option.bind_eq_some_iff.1 h
    have := chL_len raw name m _ _ _ _ _ t h
    simp only [List.length_append, List.length_singleton] at this
    omega
theorem r_readsM {α : Type} {d : Kd α} {e : Nat} {w : World} {base : Nat} {ok : Nat → Prop} {A : Option Addr} {n c : Nat} {xs : List α} (h : d.R e w base ok (.slice A n c) xs) : ReadsRow (d.M w base (fun k => ok k ∧ some k ≠ (Value.slice A n c).ownBlock)) d.sz w A n xs := by
  obtain ⟨A', c', he, hl, hr⟩ := OwnRow.reads h.2
  injection he with h1 h2 h3
  subst h1
  rw [h2] at hr ⊢
  exact hr
theorem m_apart {α β : Type} {d : Kd α} {d' : Kd β} {e' : Nat} {wr : World} {base base' : Nat} {ok ok' : Nat → Prop} {x : α} {cs : List Value} {v' : Value} {ys : List β} (h : d.M wr base ok x cs) (h' : d'.R e' wr base' ok' v' ys) (ht : ∀ q, q ∈ d.E → q ≠ e') : d.M wr base (fun k => ok k ∧ some k ≠ v'.ownBlock) x cs := by
  cases hv : v'.ownBlock with
  | none => exact d.M_mono (fun k hk => ⟨hk, by simp⟩) h
  | some g =>
    obtain ⟨cells, hc⟩ := Kd.R_typed h' g hv
    exact d.M_mono (fun k hk => ⟨hk.1, fun e => hk.2 (Option.some.inj e)⟩) (Kd.M_types h hc ht)
theorem ChS.made {w wr w1 : World} {ga gd n : Nat} {raw : List Int} {As : List (List S84)} {Cs : List Bool} {Ts : List (List S38)} {cA cB cC vA vB vC u : Value} (h : ChS w ga gd raw n As Cs Ts cA cB cC vA vB vC u wr) (hg : wr.grownBy w1 none) (hb : Below w.heap.size w w1) : ChS w ga gd raw n As Cs Ts cA cB cC vA vB vC u w1 := by
  obtain ⟨cs, hd⟩ := h.dice.typed
  exact ⟨h.lga, h.lgd, (hg.block _ (blk_lt h.bk) (by simp)).trans h.bk, Kd.R_grown h.rA hg (fun _ _ => by simp), Kd.R_grown h.rB hg (fun _ _ => by simp), Kd.R_grown h.rC hg (fun _ _ => by simp), h.dice.block (hg.block _ (blk_lt hd) (by simp)), hb⟩
theorem info63 : (Try.prog.info? 63).map (fun i => (i.zero, i.size, i.bytes)) = some (some (.slice none 0 0), 1, 24) := by kernel_rfl
theorem info4 : (Try.prog.info? 4).map (fun i => (i.zero, i.size, i.bytes)) = some (some (.bool false), 1, 1) := by kernel_rfl
theorem info32 : (Try.prog.info? 32).map (fun i => (i.zero, i.size, i.bytes)) = some (some (.slice none 0 0), 1, 24) := by kernel_rfl
theorem roll8_range {raw : List Int} {u : Nat} {x : Int} (h : rollF raw u 8 = some x) : 0 ≤ x ∧ x ≤ 7 := by
  unfold rollF at h
  split at h
  · injection h with h; omega
  · rw [show wrap64 (8 - 1) = 7 by unfold wrap64; omega] at h
    obtain ⟨q, hq⟩ : ∃ q, q = wrap64 (rd raw ((u % raw.length : Nat) : Int) + (((u + 1) / raw.length : Nat) : Int)) := ⟨_, rfl⟩
    rw [← hq] at h
    clear hq
    unfold chanceryref1_Within.f at h
    rw [show wrap64 (7 - 0) = 7 by unfold wrap64; omega, show wrap64 (7 + 1) = 8 by unfold wrap64; omega, if_neg (by decide)] at h
    simp only [Int.reduceLE, ↓reduceIte, Option.some.injEq] at h
    have h3 : -8 < Int.tmod q 8 ∧ Int.tmod q 8 < 8 := ⟨Int.lt_tmod_of_pos q (by decide), Int.tmod_lt_of_pos q (by decide)⟩
    have h4 : wrap64 (Int.tmod q 8 + 8) = Int.tmod q 8 + 8 := by unfold wrap64; omega
    rw [h4] at h
    have h5 : 0 ≤ Int.tmod (Int.tmod q 8 + 8) 8 := Int.tmod_nonneg _ (by omega)
    have h6 : Int.tmod (Int.tmod q 8 + 8) 8 < 8 := Int.tmod_lt_of_pos _ (by decide)
    have h7 : wrap64 (0 + Int.tmod (Int.tmod q 8 + 8) 8) = Int.tmod (Int.tmod q 8 + 8) 8 := by unfold wrap64; omega
    rw [h7] at h
    omega
theorem sum_w (i j M c : Nat) (hi : i ≤ M) (hM : M ≤ 1048576) (hj : j < c) (hc : c ≤ 2) : wrap64 ((i : Int) + (j : Int)) = ((i + j : Nat) : Int) := by unfold wrap64; omega
theorem sum_q (i j q : Nat) (hq : q = (i + j) % 26) : Int.tmod ((i + j : Nat) : Int) 26 = (q : Int) := by rw [Int.tmod_eq_emod_of_nonneg (Int.natCast_nonneg _), hq]; omega
theorem sum_q2 (i j q : Nat) (hq : q = (i + j) % 26) : Int.tmod ((i : Int) + (j : Int)) 26 = (q : Int) := sum_q i j q hq
theorem sum_65 (q : Nat) (h : q < 26) : wrap64 (65 + (q : Int)) = 65 + (q : Int) := by unfold wrap64; omega
theorem q_lt (i j : Nat) : (i + j) % 26 < 26 := Nat.mod_lt _ (Nat.zero_lt_succ _)
theorem addsL_len (i : Nat) (name : ByteArray) : ∀ j, (addsL i name j).length = j
  | 0 => rfl
  | j + 1 => by rw [addsL, List.length_append, addsL_len i name j]; rfl
theorem rollU_le (raw : List Int) (u : Nat) : rollU raw u ≤ u + 1 := by unfold rollU; split <;> omega
set_option maxRecDepth 100000 in
set_option maxHeartbeats 1000000 in
theorem change_calls (k : Nat) (n : Int) (A0 : Option Addr) (c0 : Nat) (raw : List Int) (name : ByteArray) (r : List S70) (w : World) (hr0 : Kd.C (Kd.int .i64) w A0 raw.length raw) (hc0 : raw.length ≤ c0) (h : changeF k n raw name = some r) :
    Calls Try.prog 43 #[.int .i64 n, .slice A0 raw.length c0, .string name] w fun e w' => ∃ v0_ : Value, e = .returned v0_ ∧ Kd.N k70 70 w' w.heap.size (fun _ => True) v0_ r ∧ Below w.heap.size w w' := by
  have hu70 := Try.underlying70
  have hu84 := Try.underlying84
  have hu38 := Try.underlying38
  have hu123 := Try.underlying123
  have hon2 : chancerykeep1_on.f (⟨#[98, 111, 108, 100]⟩ : ByteArray) = some (onL sBold) := rfl
  have hon : chancerykeep1_on.f name = some (onL name) := rfl
  have hu100 := Try.underlying100
  have HR0 := Aside0.mk hr0
  have HC0 := Aside0.mk hc0
  rw [changeF] at h
  by_cases hn : 0 ≤ n ∧ n ≤ 1048576
  rotate_left
  · rw [if_neg hn] at h
    cases h
  rw [if_pos hn] at h
  obtain ⟨⟨Ar, Cr, Tr⟩, ht, hdof⟩ := Option.bind_eq_some_iff.1 h
  obtain ⟨M, hM⟩ : ∃ M : Nat, n = (M : Int) := ⟨n.toNat, by omega⟩
  subst hM
  rw [Int.toNat_natCast] at ht
  have HM := Aside0.mk (show M ≤ 1048576 by omega)
  have HLN := Aside0.mk (show Ar.length = M + 1 ∧ Cr.length = M ∧ Tr.length = M by have := chL_len _ _ _ _ _ _ _ _ _ ht; simpa using this)
  have HZ := Aside0.mk (show chL raw name (M - 0) 0 0 [] [] [] = some (Ar, Cr, Tr) from ht)
  have HDL := Aside0.mk (show dofL k Ar Cr Tr [] [] 0 = some r from hdof)
  clear hdof
  clear hr0 hc0 h hn ht
  have HJ0 : Aside0 (ChS w w.heap.size (w.heap.size + 1) raw 0 [] [] [] (.slice none 0 0) (.slice none 0 0) (.slice none 0 0) (.slice none 0 0) (.slice none 0 0) (.slice none 0 0) (.slice none 0 0) ((w.alloc (Obj.cells #[Value.slice none 0 0, Value.slice none 0 0, Value.slice none 0 0] 123 (0, 0))).alloc (Obj.cells #[Value.slice A0 raw.length c0, Value.int IntKind.i64 0] 100 (0, 0)))) := by
    refine ⟨⟨Nat.le_refl _, by omega, blk_alloc (blk_new w _) _, Kd.R_nil _ _ _ _ _, Kd.R_nil _ _ _ _ _, Kd.R_nil _ _ _ _ _, ⟨A0, c0, ?_, HR0.out, HC0.out⟩, below_alloc (below_alloc (Below.refl _ _) _) _⟩⟩
    have := blk_new (w.alloc (Obj.cells #[Value.slice none 0 0, Value.slice none 0 0, Value.slice none 0 0] 123 (0, 0))) (Obj.cells #[Value.slice A0 raw.length c0, Value.int IntKind.i64 0] 100 (0, 0))
    rw [World.size_alloc] at this
    exact this
  go_enter Try.func43, Try.ntmps43
  go_wp2
  obtain ⟨gd, hgd⟩ : ∃ g, g = w.heap.size + 1 := ⟨_, rfl⟩
  rw [← hgd] at HJ0
  rw [← hgd]
  clear hgd
  obtain ⟨ga, hga⟩ : ∃ g, g = w.heap.size := ⟨_, rfl⟩
  have HJ1 : Aside0 (ChS w ga gd raw 0 [] [] [] (.slice none 0 0) (.slice none 0 0) (.slice none 0 0) (.slice none 0 0) (.slice none 0 0) (.slice none 0 0) (.slice none 0 0) ((w.alloc (Obj.cells #[Value.slice none 0 0, Value.slice none 0 0, Value.slice none 0 0] 123 (0, 0))).alloc (Obj.cells #[Value.slice A0 raw.length c0, Value.int IntKind.i64 0] 100 (0, 0)))) := ⟨by rw [hga]; exact HJ0.out⟩
  rw [show w.heap.size = ga from hga.symm]
  clear hga HJ0
  go_loopg [9] (M + 1) (fun m v9 wr => ∃ (i u : Nat) (As : List (List S84)) (Cs : List Bool) (Ts : List (List S38)) (vA vB vC : Value), v9 = .int .i64 (i : Int) ∧ Aside0 (m + i = M + 1 ∧ u ≤ 3 * i ∧ As.length = i ∧ Cs.length = i ∧ Ts.length = i) ∧ Aside0 (ChS w ga gd raw u As Cs Ts vA vB vC vA vB vC (.slice none 0 0) wr) ∧ Aside0 (chL raw name (M - i) i u As Cs Ts = some (Ar, Cr, Tr)))
  case atStart => exact ⟨0, 0, [], [], [], _, _, _, rfl, ⟨by simp⟩, HJ1, HZ⟩
  case round =>
    clear HJ1 HZ
    obtain ⟨i, u, As, Cs, Ts, vA, vB, vC, rfl, HI, HS, HL⟩ := hrel
    by_cases hi : i ≤ M
    rotate_left
    · have g1 : decide ((i : Int) ≤ (M : Int)) = false := decide_eq_false (by omega)
      have hL := HL.out
      rw [chL_eq] at hL
      exfalso
      have h1 := HLN.out
      have h2 := chL_len _ _ _ _ _ _ _ _ _ HL.out
      have := HI.out
      simp only [List.length_nil] at h1 h2
      omega
    obtain ⟨gl, rfl⟩ : ∃ gl, gk = gl + 1 := ⟨gk - 1, by have := HI.out; omega⟩
    have g1 : decide ((i : Int) ≤ (M : Int)) = true := decide_eq_true (by omega)
    have g1' : decide (i ≤ M) = true := decide_eq_true hi
    have hL := HL.out
    rw [chL_eq] at hL
    obtain ⟨x, hx, hL⟩ := Option.bind_eq_some_iff.1 hL
    have HX := Aside0.mk hx
    have HLR := Aside0.mk hL
    have HXR := Aside0.mk (roll8_range hx)
    obtain ⟨c, hc⟩ : ∃ c : Nat, c = (x - 5).toNat := ⟨_, rfl⟩
    rw [← hc] at HLR
    obtain ⟨y, hy⟩ : ∃ y, y = x - 5 := ⟨_, rfl⟩
    have hw1 : IntKind.i64.wrap (x - 5) = y := by rw [i64_w, hy]; have := HXR.out; unfold wrap64; omega
    have hw2 : wrap64 (x - 5) = y := by rw [hy]; have := HXR.out; unfold wrap64; omega
    have hmx : (if 0 < y then y else 0) = (c : Int) := by rw [hc, hy]; split <;> omega
    have HCB := Aside0.mk (show c ≤ 2 by rw [hc]; have := HXR.out; omega)
    clear hx hL HL hc hy
    go_wp2_with (go_at_call 70; (with_reducible refine (HS.out.roll_calls (by have := HI.out; have := HM.out; omega) HX.out).mono ?_); rintro e1 w5 ⟨rfl, hJ, _, _⟩; clear HS; have HS := Aside0.mk hJ; clear hJ)
    clear hw1 hw2 hmx
    go_loopg [10, 25] c (fun m v10 v25 wx => ∃ (j : Nat), v25 = .int .i64 (j : Int) ∧ Aside0 (m + j = c) ∧ Aside0 (ChS w ga gd raw (rollU raw u) As Cs Ts vA vB vC vA vB vC v10 wx ∧ Kd.R k84 84 wx w.heap.size (fun _ => True) v10 (addsL i name j)))
    case atStart => exact ⟨0, rfl, ⟨rfl⟩, ⟨HS.out, Kd.R_nil _ _ _ _ _⟩⟩
    case round =>
      clear HS
      obtain ⟨j, rfl, HJ, HS⟩ := hrel
      obtain ⟨A4, n4, e4⟩ := Kd.R_slice HS.out.2
      subst e4
      by_cases hj : j < c
      · obtain ⟨g2, rfl⟩ : ∃ g2, gk = g2 + 1 := ⟨gk - 1, by have := HJ.out; omega⟩
        have k1 : decide ((j : Int) < (c : Int)) = true := decide_eq_true (by omega)
        have k1' : decide (j < c) = true := decide_eq_true hj
        go_upto_region 10 with (fail)
        have HWK := Aside0.mk (show wrap64 ((j : Int) + 1) = (j : Int) + 1 by have := HCB.out; unfold wrap64; omega)
        have hlen : (addsL i name j).length = j := addsL_len i name j
        have HJL := Aside0.mk (show (addsL i name j).length ≤ 2 by have := HCB.out; omega)
        have HJ3 := Aside0.mk (show g2 + (j + 1) = c by have := HJ.out; omega)
        have HIM := Aside0.mk hi
        have HJC := Aside0.mk hj
        clear hlen
        obtain ⟨q, hq⟩ : ∃ q : Nat, q = (i + j) % 26 := ⟨_, rfl⟩
        have HQ := Aside0.mk (show addsL i name (j + 1) = addsL i name j ++ [⟨65 + (q : Int), 0, onL name⟩] by rw [addsL, hq])
        have w1 := sum_w i j M c hi HM.out hj HCB.out
        have w2 := sum_q i j q hq
        have w2' := sum_q2 i j q hq
        have w3 := sum_65 q (by rw [hq]; exact q_lt i j)
        clear hq hj hi
        go_upto_region 11 with (first
          | (go_at_call 83; with_reducible refine (chancerykeep1_on.calls name (onL name) _ hon).mono ?_; rintro e w6 ⟨v6, rfl, hR6, hb6⟩; obtain ⟨A6, n6, rfl⟩ := Kd.R_slice hR6; have HR6 := Aside0.mk (Kd.R_lower (Kd.R_newR hR6 HS.out.2) HS.out.1.bel.size); have HS6 := Aside0.mk (And.intro (HS.out.1.below hb6) (Kd.R_below HS.out.2 hb6)); clear hR6 hb6)
          | (at_builtin; refine Kd.R_append k84 (w0 := w) w.heap.size rfl (.tmp 28) (.tmp 37) 63 84 (.agg #[.int .i64 0, .int .i64 0, .slice none 0 0]) 40 rfl Try.underlying63 info84 rfl (by decide) (by decide) _ (addsL i name j) ⟨65 + (q : Int), 0, onL name⟩ _ (fun _ => True) (fun k => True ∧ some k ≠ (Value.slice A4 (addsL i name j).length n4).ownBlock) rfl (by simp [Act.eval]) (k84_mkM _ _ _ ⟨65 + (q : Int), 0, onL name⟩ HR6.out) (fun _ hk => hk) (fun _ _ => trivial) HS6.out.2 HS6.out.1.bel HS6.out.1.bel.size (by have := HJL.out; omega) ?_; intro v1 w7 hR7 hB7 hg7 hat7; have HS7 := Aside0.mk (And.intro (HS6.out.1.appU HS6.out.2 hg7 hat7 hB7) hR7); clear hR7 hB7 hg7 hat7))
        clear w1 w2 w2' w3
        have hi := HIM.out
        have wk2 := HWK.out
        go_wp2
        go_roundg g2
        case measure => omega
        case rel => exact ⟨j + 1, by simp [wk2], HJ3, ⟨HS7.out.1, by rw [HQ.out]; exact HS7.out.2⟩⟩
      · obtain rfl : c = j := by have := HJ.out; omega
        have k1 : decide ((c : Int) < (c : Int)) = false := decide_eq_false (by omega)
        have k1' : decide (c < c) = false := decide_eq_false hj
        obtain ⟨A5, n5, e5⟩ := Kd.R_slice HS.out.1.rA
        subst e5
        have hcA : wr.cell? ⟨ga, 0, none⟩ = some (.slice A5 As.length n5) := (blk_cell HS.out.1.bk 0).trans rfl
        have HAL := Aside0.mk (show As.length ≤ 1048577 by have := HI.out; have := HM.out; omega)
        have HIM := Aside0.mk hi
        clear hj
        go_upto_region 13 with (at_builtin; refine Kd.R_append (Kd.slice 84 k84) (w0 := w) w.heap.size rfl (.tmp 41) (.tmp 43) 119 63 (.slice none 0 0) 24 rfl Try.underlying119 info63 rfl (by decide) (by decide) _ As (addsL i name c) _ (fun _ => True) (fun k => True ∧ some k ≠ (Value.slice A5 As.length n5).ownBlock) rfl (by simp [Act.eval]) ⟨_, rfl, Kd.R_apartR HS.out.2 HS.out.1.rA (by decide)⟩ (fun _ hk => hk) (fun _ _ => trivial) (Kd.R_mono HS.out.1.rA (fun _ _ => trivial)) HS.out.1.bel HS.out.1.bel.size (by have := HAL.out; omega) ?_; intro v1 w7 hR7 hB7 hg7 hat7; obtain ⟨Ax, hAx⟩ : ∃ l, l = As ++ [addsL i name c] := ⟨_, rfl⟩; rw [← hAx] at hR7 HLR; have HAX := Aside0.mk (show Ax.length = As.length + 1 by rw [hAx]; simp); clear hAx; obtain ⟨A7, n7, e7⟩ := Kd.R_slice hR7; subst e7; have HS7 := Aside0.mk (HS.out.1.appA hR7 hg7 hB7); have hd0 : w7.cell? ⟨ga, 0, none⟩ = some _ := (blk_cell HS7.out.bk 0).trans rfl; have hf0 := blk_frozen HS7.out.bk 0; clear hR7 hB7 hg7 hat7)
        have HS8 := Aside0.mk (HS7.out.set 0 (.slice A7 Ax.length n7) (.slice A7 Ax.length n7) vB vC rfl)
        obtain ⟨w8, hw8⟩ : ∃ W, W = w7.setCell ⟨ga, 0, none⟩ (Value.slice A7 Ax.length n7) := ⟨_, rfl⟩
        rw [← hw8] at HS8
        rw [← hw8]
        clear hw8 hd0 hf0 HS7 HS hcA k1 k1'
        obtain ⟨B7, m7, e8⟩ := Kd.R_slice HS8.out.rB
        obtain ⟨D7, l7, e9⟩ := Kd.R_slice HS8.out.rC
        subst e8
        subst e9
        have hi := HIM.out
        by_cases him : i = M
        · have g3 : ((i : Int) == (M : Int)) = true := beq_iff_eq.mpr (by omega)
          have g3' : (i == M) = true := beq_iff_eq.mpr him
          have hL := HLR.out
          rw [show M - i = 0 by omega, chR] at hL
          injection hL with hL
          injection hL with hL1 hL
          injection hL with hL2 hL3
          subst hL1 hL2 hL3
          have hcA : w8.cell? ⟨ga, 0, none⟩ = some (.slice A7 Ax.length n7) := (blk_cell HS8.out.bk 0).trans rfl
          have hcB : w8.cell? ⟨ga, 1, none⟩ = some (.slice B7 Cs.length m7) := (blk_cell HS8.out.bk 1).trans rfl
          have hcC : w8.cell? ⟨ga, 2, none⟩ = some (.slice D7 Ts.length l7) := (blk_cell HS8.out.bk 2).trans rfl
          clear hi him HIM
          have HC1 := Aside0.mk (Kd.R_reads' HS8.out.rA).2.2
          have HC2 := Aside0.mk (Kd.R_reads' HS8.out.rB).2.2
          have HC3 := Aside0.mk (Kd.R_reads' HS8.out.rC).2.2
          go_wp2_with (go_at_call 84; go_loud ((with_reducible refine (dof_calls k _ n7 Ax _ m7 Cs _ l7 Ts r w8 HC1.out HC2.out HC3.out (by have := HLN.out; omega) (by have := HLN.out; omega) (by have := HLN.out; have := HM.out; omega) HDL.out).mono ?_); rintro e1 w9 ⟨v9, rfl, hR9, hB9⟩; have HR9 := Aside0.mk (Kd.N_lower hR9 HS8.out.bel.size); have HB9 := Aside0.mk (below_step HS8.out.bel hB9); clear hR9 hB9))
          first | go_ret | go_ret2
          exact ⟨_, rfl, HR9.out, HB9.out⟩
        · have g3 : ((i : Int) == (M : Int)) = false := beq_eq_false_iff_ne.mpr (by omega)
          have g3' : (i == M) = false := beq_eq_false_iff_ne.mpr him
          obtain ⟨m, hm⟩ : ∃ m, M - i = m + 1 := ⟨M - i - 1, by omega⟩
          have hL := HLR.out
          rw [hm, chR] at hL
          obtain ⟨y1, hy1, hL⟩ := Option.bind_eq_some_iff.1 hL
          obtain ⟨z1, hz1, hL⟩ := Option.bind_eq_some_iff.1 hL
          have HY := Aside0.mk hy1
          have HZ1 := Aside0.mk hz1
          have HLL := Aside0.mk (show chL raw name (M - (i + 1)) (i + 1) (rollU raw (rollU raw (rollU raw u))) Ax (Cs ++ [z1 == 0]) (Ts ++ [attrsL y1 name]) = some (Ar, Cr, Tr) by rw [show M - (i + 1) = m by omega]; exact hL)
          have HYR := Aside0.mk (roll8_range hy1)
          have HU := Aside0.mk (show rollU raw u ≤ 3 * i + 1 by have := rollU_le raw u; have := HI.out; omega)
          have HU2 := Aside0.mk (show rollU raw (rollU raw u) ≤ 3 * i + 2 by have := rollU_le raw (rollU raw u); have := HU.out; omega)
          have HU3 := Aside0.mk (show rollU raw (rollU raw (rollU raw u)) ≤ 3 * i + 3 by have := rollU_le raw (rollU raw (rollU raw u)); have := HU2.out; omega)
          clear hL hy1 hz1 hm him hi
          go_upto_block 4 with (go_at_call 70; (with_reducible refine (HS8.out.roll_calls (by have := HU.out; have := HIM.out; have := HM.out; omega) HY.out).mono ?_); rintro e1 w9 ⟨rfl, hJ, _, _⟩; have HS9 := Aside0.mk hJ; clear hJ)
          go_cut [12] (fun v12 wx => Aside0 (ChS w ga gd raw (rollU raw (rollU raw u)) Ax Cs Ts (.slice A7 Ax.length n7) (.slice B7 Cs.length m7) (.slice D7 Ts.length l7) (.slice A7 Ax.length n7) (.slice B7 Cs.length m7) (.slice D7 Ts.length l7) (.slice none 0 0) wx ∧ Kd.R k38 38 wx w.heap.size (fun _ => True) v12 (attrsL y1 name)))
          case first =>
            by_cases q1 : y1 = 1
            · have q1b : (y1 == 1) = true := beq_iff_eq.mpr q1
              have HEQ := Aside0.mk (show attrsL y1 name = onL sBold from if_pos q1)
              clear q1
              go_wp2_with (go_at_call 83; with_reducible refine (chancerykeep1_on.calls (⟨#[98, 111, 108, 100]⟩ : ByteArray) (onL sBold) _ hon2).mono ?_; rintro e w10 ⟨v6, rfl, hR6, hb6⟩; have HR10 := Aside0.mk (Kd.R_lower hR6 HS9.out.bel.size); have HS10 := Aside0.mk (HS9.out.below hb6); clear hR6 hb6)
              go_meet
              case rel => exact ⟨HS10.out, by rw [HEQ.out]; exact HR10.out⟩
            have q1b : (y1 == 1) = false := beq_eq_false_iff_ne.mpr q1
            by_cases q2 : y1 = 2
            · have q2b : (y1 == 2) = true := beq_iff_eq.mpr q2
              have HEQ := Aside0.mk (show attrsL y1 name = [⟨sBold, sNil⟩] from (if_neg q1).trans (if_pos q2))
              clear q1 q2
              go_wp2_with (first | ((with_reducible refine gate_dst (N := 57) rfl ?_); refine Kd.R_lit k38 _ 38 ?hg (N := 57) ?hd (xs := ([(⟨(⟨#[98, 111, 108, 100]⟩ : ByteArray), (⟨#[]⟩ : ByteArray)⟩ : S38)] : List S38)) (inner := [.string (⟨#[98, 111, 108, 100]⟩ : ByteArray), .string (⟨#[]⟩ : ByteArray)]) (ok := fun _ => True) (okp := fun _ => True) ?hr ?hp (fun _ hk => hk) trivial (Below.refl _ _) (Nat.le_refl _) (by simp) ?_; (case hd => rfl); (case hg => rfl); (case hr => first | (go_simp; done) | (go_simp; rfl)); (case hp => exact (Reps.c2 (show Kd.M k38 _ _ _ (⟨(⟨#[98, 111, 108, 100]⟩ : ByteArray), (⟨#[]⟩ : ByteArray)⟩ : S38) [.string (⟨#[98, 111, 108, 100]⟩ : ByteArray), .string (⟨#[]⟩ : ByteArray)] from (k38_mkM _ _ _ (⟨(⟨#[98, 111, 108, 100]⟩ : ByteArray), (⟨#[]⟩ : ByteArray)⟩ : S38))) (Reps.none _ _))); intro v10_ w10 hR10 hb10 hg_ hnew_; have HR10 := Aside0.mk (Kd.R_lower hR10 HS9.out.bel.size); have HS10 := Aside0.mk (HS9.out.below hb10); clear hR10 hb10 hg_ hnew_))
              go_meet
              case rel => exact ⟨HS10.out, by rw [HEQ.out]; exact HR10.out⟩
            have q2b : (y1 == 2) = false := beq_eq_false_iff_ne.mpr q2
            by_cases q3 : y1 = 3
            · have q3b : (y1 == 3) = true := beq_iff_eq.mpr q3
              have HEQ := Aside0.mk (show attrsL y1 name = [⟨sBold, name⟩, ⟨name, sOn⟩] from (if_neg q1).trans ((if_neg q2).trans (if_pos q3)))
              clear q1 q2 q3
              go_wp2_with (first | ((with_reducible refine gate_dst (N := 64) rfl ?_); refine Kd.R_lit k38 _ 38 ?hg (N := 64) ?hd (xs := ([(⟨(⟨#[98, 111, 108, 100]⟩ : ByteArray), name⟩ : S38), (⟨name, (⟨#[111, 110]⟩ : ByteArray)⟩ : S38)] : List S38)) (inner := [.string (⟨#[98, 111, 108, 100]⟩ : ByteArray), .string name, .string name, .string (⟨#[111, 110]⟩ : ByteArray)]) (ok := fun _ => True) (okp := fun _ => True) ?hr ?hp (fun _ hk => hk) trivial (Below.refl _ _) (Nat.le_refl _) (by simp) ?_; (case hd => rfl); (case hg => rfl); (case hr => first | (go_simp; done) | (go_simp; rfl)); (case hp => exact (Reps.c2 (show Kd.M k38 _ _ _ (⟨(⟨#[98, 111, 108, 100]⟩ : ByteArray), name⟩ : S38) [.string (⟨#[98, 111, 108, 100]⟩ : ByteArray), .string name] from (k38_mkM _ _ _ (⟨(⟨#[98, 111, 108, 100]⟩ : ByteArray), name⟩ : S38))) (Reps.c2 (show Kd.M k38 _ _ _ (⟨name, (⟨#[111, 110]⟩ : ByteArray)⟩ : S38) [.string name, .string (⟨#[111, 110]⟩ : ByteArray)] from (k38_mkM _ _ _ (⟨name, (⟨#[111, 110]⟩ : ByteArray)⟩ : S38))) (Reps.none _ _)))); intro v10_ w10 hR10 hb10 hg_ hnew_; have HR10 := Aside0.mk (Kd.R_lower hR10 HS9.out.bel.size); have HS10 := Aside0.mk (HS9.out.below hb10); clear hR10 hb10 hg_ hnew_))
              go_meet
              case rel => exact ⟨HS10.out, by rw [HEQ.out]; exact HR10.out⟩
            have q3b : (y1 == 3) = false := beq_eq_false_iff_ne.mpr q3
            have HEQ := Aside0.mk (show attrsL y1 name = [] from (if_neg q1).trans ((if_neg q2).trans (if_neg q3)))
            clear q1 q2 q3
            go_wp2
            go_meet
            case rel => exact ⟨HS9.out, by rw [HEQ.out]; exact Kd.R_nil _ _ _ _ _⟩
          case rest =>
          obtain ⟨hC0, hV0⟩ := hcut.out
          obtain ⟨at_, hat⟩ : ∃ l, l = attrsL y1 name := ⟨_, rfl⟩
          rw [← hat] at hV0 HLL
          clear hat
          obtain ⟨A12, n12, e12⟩ := Kd.R_slice hV0
          subst e12
          obtain ⟨zb, hzb⟩ : ∃ b, (z1 == 0) = b := ⟨_, rfl⟩
          rw [hzb] at HLL
          obtain ⟨Cx, hCx⟩ : ∃ l, l = Cs ++ [zb] := ⟨_, rfl⟩
          obtain ⟨Tx, hTx⟩ : ∃ l, l = Ts ++ [at_] := ⟨_, rfl⟩
          rw [← hCx, ← hTx] at HLL
          have HCX := Aside0.mk hCx
          have HTX := Aside0.mk hTx
          have HIG := Aside0.mk (show gl + (i + 1) = M + 1 ∧ rollU raw (rollU raw (rollU raw u)) ≤ 3 * (i + 1) ∧ Ax.length = i + 1 ∧ Cx.length = i + 1 ∧ Tx.length = i + 1 by
            have h1 := HI.out
            have h2 := HU3.out
            have h3 := HAX.out
            rw [hCx, hTx, List.length_append, List.length_append, List.length_singleton, List.length_singleton]
            omega)
          have HCL := Aside0.mk (show Cs.length ≤ 1048576 ∧ Ts.length ≤ 1048576 by have := HI.out; have := HM.out; have := HIM.out; omega)
          have HWI := Aside0.mk (show wrap64 ((i : Int) + 1) = (i : Int) + 1 by have := HM.out; have := HIM.out; unfold wrap64; omega)
          have HC := Aside0.mk hC0.drew
          have HV := Aside0.mk (Kd.R_drew hV0)
          clear hC0 hV0 hCx hTx hcut HS9 HS8
          go_upto_region 22 with (fail)
          refine start_ (n := 16) (S := fun w' => w'.cell? ⟨ga, 1, none⟩ = some (.slice B7 Cs.length m7) ∧ w'.cell? ⟨ga, 2, none⟩ = some (.slice D7 Ts.length l7)) (ds := [13, 15]) #[false, false, false, false, false, false, false, false, false, false, false, false, false, false, false, false] (by kernel_rfl) rfl rfl ⟨((blk_cell HC.out.bk 1).trans rfl), ((blk_cell HC.out.bk 2).trans rfl)⟩ (fun hHeld => ?_)
          refine pure_ (i := 0) (N := some 65) (v := ?_) (a' := ?_) (bm 1 16) rfl rfl (by kernel_rfl) (fun _ _ _ h => h) (Or.inl ⟨by rfl, ?_⟩) ?_ ?_
          rotate_left
          · intro w'
            go_simp
            with_reducible rfl
          rotate_left
          · simp only [Act.put, List.setIfInBounds_toArray, List.set_cons_zero, List.set_cons_succ, i64_w, i32_w]
            rfl
          refine pure_ (i := 2) (N := some 67) (v := ?_) (a' := ?_) (bm 5 16) rfl rfl (by kernel_rfl) (fun _ _ _ h => h) (Or.inl ⟨by rfl, ?_⟩) ?_ ?_
          rotate_left
          · intro w'
            go_simp
            with_reducible rfl
          rotate_left
          · simp only [Act.put, List.setIfInBounds_toArray, List.set_cons_zero, List.set_cons_succ, i64_w, i32_w]
            rfl
          refine pure_ (i := 7) (N := some 72) (v := ?_) (a' := ?_) (bm 133 16) rfl rfl (by kernel_rfl) (fun _ _ _ h => h) (Or.inl ⟨by rfl, ?_⟩) ?_ ?_
          rotate_left
          · intro w'
            go_simp
            with_reducible rfl
          rotate_left
          · simp only [Act.put, List.setIfInBounds_toArray, List.set_cons_zero, List.set_cons_succ, i64_w, i32_w]
            rfl
          refine pure_ (i := 9) (N := some 74) (v := ?_) (a' := ?_) (bm 645 16) rfl rfl (by kernel_rfl) (fun _ _ _ h => h) (Or.inl ⟨by rfl, ?_⟩) ?_ ?_
          rotate_left
          · intro w'
            go_simp
            with_reducible rfl
          rotate_left
          · simp only [Act.put, List.setIfInBounds_toArray, List.set_cons_zero, List.set_cons_succ, i64_w, i32_w]
            rfl
          refine take_ (i := 1) (N := some 66) (v := ?_) (a' := ?_) (bm 647 16) rfl rfl (by kernel_rfl) (fun _ _ _ h => h) (Or.inl ⟨by rfl, ?_⟩) hHeld ?_ ?_
          rotate_left
          · rintro w' ⟨s0, s1⟩
            go_simp
            with_reducible rfl
          rotate_left
          · simp only [Act.put, List.setIfInBounds_toArray, List.set_cons_zero, List.set_cons_succ, i64_w, i32_w]
            rfl
          refine take_ (i := 8) (N := some 73) (v := ?_) (a' := ?_) (bm 903 16) rfl rfl (by kernel_rfl) (fun _ _ _ h => h) (Or.inl ⟨by rfl, ?_⟩) hHeld ?_ ?_
          rotate_left
          · rintro w' ⟨s0, s1⟩
            go_simp
            with_reducible rfl
          rotate_left
          · simp only [Act.put, List.setIfInBounds_toArray, List.set_cons_zero, List.set_cons_succ, i64_w, i32_w]
            rfl
          refine join_ (σ := Value × Value × Value) 4 (bm 6143 16) (fun s_ => [(68, .int .i64 z1), (69, .bool zb), (70, s_.1), (71, s_.2.1), (75, s_.2.2), (77, .pointer (some ⟨ga, 1, none⟩))]) (fun s_ w' => (w'.cell? ⟨ga, 1, none⟩ = some (.slice B7 Cs.length m7) ∧ w'.cell? ⟨ga, 2, none⟩ = some (.slice D7 Ts.length l7)) ∧ (ChS w ga gd raw (rollU raw (rollU raw (rollU raw u))) Ax Cx Ts (.slice A7 Ax.length n7) (.slice B7 Cs.length m7) (.slice D7 Ts.length l7) (.slice A7 Ax.length n7) (s_.2.1) (.slice D7 Ts.length l7) (.slice none 0 0) w') ∧ (Kd.R (Kd.slice 38 k38) 32 w' w.heap.size (fun _ => True) s_.2.2 [at_])) ?_ ?_
          rotate_left
          · intro hCont
            refine two_ (i := 3) (j := 10) (Ni := some 68) (Nj := some 75) (bm 911 16) (bm 1927 16) rfl rfl rfl rfl (by kernel_rfl) (by decide) (by decide) (fun K hK => ?_) (fun K hK => ?_)
            · skip
              refine goes_ Try.func70 (by kernel_rfl) rfl #[.pointer (some ⟨gd, 0, none⟩), .int .i64 8] (by rfl) rfl rfl (by simp only [List.map_toArray, List.map_cons, List.map_nil]; rfl) ?_
              with_reducible refine (HC.out.roll_calls (by have := HU2.out; have := HIM.out; have := HM.out; omega) HZ1.out).mono ?_
              rintro e w3_ ⟨rfl, hJ, hfr, hsz⟩
              refine ⟨_, rfl, ?_⟩
              obtain ⟨csd, hgd⟩ := HC.out.dice.typed
              have HV := Aside0.mk (r_keep HV.out hgd (by decide) hfr)
              have HC := Aside0.mk hJ
              clear hJ hfr hsz hgd
              refine hK.out _ _ ⟨((blk_cell HC.out.bk 1).trans rfl), ((blk_cell HC.out.bk 2).trans rfl)⟩ (fun hHeld => ?_)
              clear hK K
              refine norm_ (a' := ?_) ?_ ?_
              rotate_left
              · show Act.put _ (some 68) _ = _
                simp only [Act.put, List.setIfInBounds_toArray, List.set_cons_zero, List.set_cons_succ, i64_w, i32_w]
                rfl
              refine pure_ (i := 4) (N := some 69) (v := ?_) (a' := ?_) (bm 927 16) rfl rfl (by kernel_rfl) (fun _ _ _ h => h) (Or.inl ⟨by rfl, ?_⟩) ?_ ?_
              rotate_left
              · intro w'
                go_simp
                with_reducible rfl
              rotate_left
              · simp only [Act.put, List.setIfInBounds_toArray, List.set_cons_zero, List.set_cons_succ, i64_w, i32_w]
                rfl
              refine two_ (i := 5) (j := 10) (Ni := some 70) (Nj := some 75) (bm 959 16) (bm 1951 16) rfl rfl rfl rfl (by kernel_rfl) (by decide) (by decide) (fun K hK => ?_) (fun K hK => ?_)
              · skip
                refine Kd.R_lit_step Kd.bool (w0 := w) w.heap.size 4 (by rfl) (N := 70) rfl (xs := [zb]) (inner := [.bool zb]) (ok := fun _ => True) (okp := fun _ => True) ?hr ?hp (fun _ hk => hk) trivial HC.out.bel HC.out.bel.size (by simp) ?_
                case hr => first | (go_simp; done) | (go_simp; rfl)
                case hp => exact Reps.one rfl (Reps.none _ _)
                intro v5_ w5_ hR hB hg hn
                have HC := Aside0.mk (HC.out.made hg hB)
                have HV := Aside0.mk (Kd.R_grown HV.out hg (fun _ _ => by simp))
                obtain ⟨A5, c5, e5⟩ : ∃ A c, v5_ = .slice A 1 c := Kd.R_slice hR
                subst e5
                have H5 := Aside0.mk hR
                clear hR hB hg hn
                refine hK.out _ _ ⟨((blk_cell HC.out.bk 1).trans rfl), ((blk_cell HC.out.bk 2).trans rfl)⟩ (fun hHeld => ?_)
                clear hK K
                refine norm_ (a' := ?_) ?_ ?_
                rotate_left
                · show Act.put _ (some 70) _ = _
                  simp only [Act.put, List.setIfInBounds_toArray, List.set_cons_zero, List.set_cons_succ, i64_w, i32_w]
                  rfl
                refine two_ (i := 6) (j := 10) (Ni := some 71) (Nj := some 75) (bm 1023 16) (bm 1983 16) rfl rfl rfl rfl (by kernel_rfl) (by decide) (by decide) (fun K hK => ?_) (fun K hK => ?_)
                · skip
                  refine Kd.R_append_rows_step Kd.bool (w0 := w) w.heap.size (by rfl) (.tmp 66) (.tmp 70) 120 4 (.bool false) 1 rfl Try.underlying120 info4 rfl (by decide) (by decide) (.slice B7 Cs.length m7) Cs [zb] A5 1 c5 (fun _ => True) (fun _ => False) rfl rfl HC.out.rB (r_readsM H5.out) (fun _ _ h => h) (fun _ h => h.elim) (fun _ _ => trivial) HC.out.bel HC.out.bel.size (by have := HCL.out; omega) ?_
                  intro v6_ w6_ hR hB hg hat
                  have HV := Aside0.mk (r_other HV.out HC.out.rB (by decide) hg)
                  rw [← HCX.out] at hR
                  have HC := Aside0.mk (HC.out.appB hR hg hB)
                  clear hR hB hg hat
                  refine hK.out _ _ ⟨((blk_cell HC.out.bk 1).trans rfl), ((blk_cell HC.out.bk 2).trans rfl)⟩ (fun hHeld => ?_)
                  clear hK K
                  refine norm_ (a' := ?_) ?_ ?_
                  rotate_left
                  · show Act.put _ (some 71) _ = _
                    simp only [Act.put, List.setIfInBounds_toArray, List.set_cons_zero, List.set_cons_succ, i64_w, i32_w]
                    rfl
                  refine pure_ (i := 12) (N := some 77) (v := ?_) (a' := ?_) (bm 5119 16) rfl rfl (by kernel_rfl) (fun _ _ _ h => h) (Or.inl ⟨by rfl, ?_⟩) ?_ ?_
                  rotate_left
                  · intro w'
                    go_simp
                    with_reducible rfl
                  rotate_left
                  · simp only [Act.put, List.setIfInBounds_toArray, List.set_cons_zero, List.set_cons_succ, i64_w, i32_w]
                    rfl
                  refine one_ (i := 10) (N := some 75) (bm 6143 16) rfl rfl (by kernel_rfl) (by decide) (fun K hK => ?_)
                  refine Kd.R_lit_step (Kd.slice 38 k38) (w0 := w) w.heap.size 32 (by rfl) (N := 75) rfl (xs := [at_]) (inner := [.slice A12 at_.length n12]) (ok := fun _ => True) (okp := fun _ => True) ?hr ?hp (fun _ hk => hk) trivial HC.out.bel HC.out.bel.size (by simp) ?_
                  case hr => first | (go_simp; done) | (go_simp; rfl)
                  case hp => exact Reps.one ⟨_, rfl, HV.out⟩ (Reps.none _ _)
                  intro v10_ w10_ hR hB hg hn
                  have HC := Aside0.mk (HC.out.made hg hB)
                  obtain ⟨A10, c10, e10⟩ : ∃ A c, v10_ = .slice A 1 c := Kd.R_slice hR
                  subst e10
                  have HV := Aside0.mk hR
                  clear hR hB hg hn
                  refine hK.out _ _ ⟨((blk_cell HC.out.bk 1).trans rfl), ((blk_cell HC.out.bk 2).trans rfl)⟩ (fun hHeld => ?_)
                  clear hK K
                  refine norm_ (a' := ?_) ?_ ?_
                  rotate_left
                  · show Act.put _ (some 75) _ = _
                    simp only [Act.put, List.setIfInBounds_toArray, List.set_cons_zero, List.set_cons_succ, i64_w, i32_w]
                    rfl
                  exact norm_ (by simp only [putAll, Act.put, List.setIfInBounds_toArray, List.set_cons_zero, List.set_cons_succ]) (hCont (.slice A5 1 c5, v6_, .slice A10 1 c10) _ ⟨hHeld, HC.out, HV.out⟩)
                · skip
                  refine Kd.R_lit_step (Kd.slice 38 k38) (w0 := w) w.heap.size 32 (by rfl) (N := 75) rfl (xs := [at_]) (inner := [.slice A12 at_.length n12]) (ok := fun _ => True) (okp := fun _ => True) ?hr ?hp (fun _ hk => hk) trivial HC.out.bel HC.out.bel.size (by simp) ?_
                  case hr => first | (go_simp; done) | (go_simp; rfl)
                  case hp => exact Reps.one ⟨_, rfl, HV.out⟩ (Reps.none _ _)
                  intro v10_ w10_ hR hB hg hn
                  have HC := Aside0.mk (HC.out.made hg hB)
                  have H5 := Aside0.mk (Kd.R_grown H5.out hg (fun _ _ => by simp))
                  obtain ⟨A10, c10, e10⟩ : ∃ A c, v10_ = .slice A 1 c := Kd.R_slice hR
                  subst e10
                  have HV := Aside0.mk hR
                  clear hR hB hg hn
                  refine hK.out _ _ ⟨((blk_cell HC.out.bk 1).trans rfl), ((blk_cell HC.out.bk 2).trans rfl)⟩ (fun hHeld => ?_)
                  clear hK K
                  refine norm_ (a' := ?_) ?_ ?_
                  rotate_left
                  · show Act.put _ (some 75) _ = _
                    simp only [Act.put, List.setIfInBounds_toArray, List.set_cons_zero, List.set_cons_succ, i64_w, i32_w]
                    rfl
                  refine one_ (i := 6) (N := some 71) (bm 2047 16) rfl rfl (by kernel_rfl) (by decide) (fun K hK => ?_)
                  refine Kd.R_append_rows_step Kd.bool (w0 := w) w.heap.size (by rfl) (.tmp 66) (.tmp 70) 120 4 (.bool false) 1 rfl Try.underlying120 info4 rfl (by decide) (by decide) (.slice B7 Cs.length m7) Cs [zb] A5 1 c5 (fun _ => True) (fun _ => False) rfl rfl HC.out.rB (r_readsM H5.out) (fun _ _ h => h) (fun _ h => h.elim) (fun _ _ => trivial) HC.out.bel HC.out.bel.size (by have := HCL.out; omega) ?_
                  intro v6_ w6_ hR hB hg hat
                  have HV := Aside0.mk (r_other HV.out HC.out.rB (by decide) hg)
                  rw [← HCX.out] at hR
                  have HC := Aside0.mk (HC.out.appB hR hg hB)
                  clear hR hB hg hat
                  refine hK.out _ _ ⟨((blk_cell HC.out.bk 1).trans rfl), ((blk_cell HC.out.bk 2).trans rfl)⟩ (fun hHeld => ?_)
                  clear hK K
                  refine norm_ (a' := ?_) ?_ ?_
                  rotate_left
                  · show Act.put _ (some 71) _ = _
                    simp only [Act.put, List.setIfInBounds_toArray, List.set_cons_zero, List.set_cons_succ, i64_w, i32_w]
                    rfl
                  refine pure_ (i := 12) (N := some 77) (v := ?_) (a' := ?_) (bm 6143 16) rfl rfl (by kernel_rfl) (fun _ _ _ h => h) (Or.inl ⟨by rfl, ?_⟩) ?_ ?_
                  rotate_left
                  · intro w'
                    go_simp
                    with_reducible rfl
                  rotate_left
                  · simp only [Act.put, List.setIfInBounds_toArray, List.set_cons_zero, List.set_cons_succ, i64_w, i32_w]
                    rfl
                  exact norm_ (by simp only [putAll, Act.put, List.setIfInBounds_toArray, List.set_cons_zero, List.set_cons_succ]) (hCont (.slice A5 1 c5, v6_, .slice A10 1 c10) _ ⟨hHeld, HC.out, HV.out⟩)
              · skip
                refine Kd.R_lit_step (Kd.slice 38 k38) (w0 := w) w.heap.size 32 (by rfl) (N := 75) rfl (xs := [at_]) (inner := [.slice A12 at_.length n12]) (ok := fun _ => True) (okp := fun _ => True) ?hr ?hp (fun _ hk => hk) trivial HC.out.bel HC.out.bel.size (by simp) ?_
                case hr => first | (go_simp; done) | (go_simp; rfl)
                case hp => exact Reps.one ⟨_, rfl, HV.out⟩ (Reps.none _ _)
                intro v10_ w10_ hR hB hg hn
                have HC := Aside0.mk (HC.out.made hg hB)
                obtain ⟨A10, c10, e10⟩ : ∃ A c, v10_ = .slice A 1 c := Kd.R_slice hR
                subst e10
                have HV := Aside0.mk hR
                clear hR hB hg hn
                refine hK.out _ _ ⟨((blk_cell HC.out.bk 1).trans rfl), ((blk_cell HC.out.bk 2).trans rfl)⟩ (fun hHeld => ?_)
                clear hK K
                refine norm_ (a' := ?_) ?_ ?_
                rotate_left
                · show Act.put _ (some 75) _ = _
                  simp only [Act.put, List.setIfInBounds_toArray, List.set_cons_zero, List.set_cons_succ, i64_w, i32_w]
                  rfl
                refine one_ (i := 5) (N := some 70) (bm 1983 16) rfl rfl (by kernel_rfl) (by decide) (fun K hK => ?_)
                refine Kd.R_lit_step Kd.bool (w0 := w) w.heap.size 4 (by rfl) (N := 70) rfl (xs := [zb]) (inner := [.bool zb]) (ok := fun _ => True) (okp := fun _ => True) ?hr ?hp (fun _ hk => hk) trivial HC.out.bel HC.out.bel.size (by simp) ?_
                case hr => first | (go_simp; done) | (go_simp; rfl)
                case hp => exact Reps.one rfl (Reps.none _ _)
                intro v5_ w5_ hR hB hg hn
                have HC := Aside0.mk (HC.out.made hg hB)
                have HV := Aside0.mk (Kd.R_grown HV.out hg (fun _ _ => by simp))
                obtain ⟨A5, c5, e5⟩ : ∃ A c, v5_ = .slice A 1 c := Kd.R_slice hR
                subst e5
                have H5 := Aside0.mk hR
                clear hR hB hg hn
                refine hK.out _ _ ⟨((blk_cell HC.out.bk 1).trans rfl), ((blk_cell HC.out.bk 2).trans rfl)⟩ (fun hHeld => ?_)
                clear hK K
                refine norm_ (a' := ?_) ?_ ?_
                rotate_left
                · show Act.put _ (some 70) _ = _
                  simp only [Act.put, List.setIfInBounds_toArray, List.set_cons_zero, List.set_cons_succ, i64_w, i32_w]
                  rfl
                refine one_ (i := 6) (N := some 71) (bm 2047 16) rfl rfl (by kernel_rfl) (by decide) (fun K hK => ?_)
                refine Kd.R_append_rows_step Kd.bool (w0 := w) w.heap.size (by rfl) (.tmp 66) (.tmp 70) 120 4 (.bool false) 1 rfl Try.underlying120 info4 rfl (by decide) (by decide) (.slice B7 Cs.length m7) Cs [zb] A5 1 c5 (fun _ => True) (fun _ => False) rfl rfl HC.out.rB (r_readsM H5.out) (fun _ _ h => h) (fun _ h => h.elim) (fun _ _ => trivial) HC.out.bel HC.out.bel.size (by have := HCL.out; omega) ?_
                intro v6_ w6_ hR hB hg hat
                have HV := Aside0.mk (r_other HV.out HC.out.rB (by decide) hg)
                rw [← HCX.out] at hR
                have HC := Aside0.mk (HC.out.appB hR hg hB)
                clear hR hB hg hat
                refine hK.out _ _ ⟨((blk_cell HC.out.bk 1).trans rfl), ((blk_cell HC.out.bk 2).trans rfl)⟩ (fun hHeld => ?_)
                clear hK K
                refine norm_ (a' := ?_) ?_ ?_
                rotate_left
                · show Act.put _ (some 71) _ = _
                  simp only [Act.put, List.setIfInBounds_toArray, List.set_cons_zero, List.set_cons_succ, i64_w, i32_w]
                  rfl
                refine pure_ (i := 12) (N := some 77) (v := ?_) (a' := ?_) (bm 6143 16) rfl rfl (by kernel_rfl) (fun _ _ _ h => h) (Or.inl ⟨by rfl, ?_⟩) ?_ ?_
                rotate_left
                · intro w'
                  go_simp
                  with_reducible rfl
                rotate_left
                · simp only [Act.put, List.setIfInBounds_toArray, List.set_cons_zero, List.set_cons_succ, i64_w, i32_w]
                  rfl
                exact norm_ (by simp only [putAll, Act.put, List.setIfInBounds_toArray, List.set_cons_zero, List.set_cons_succ]) (hCont (.slice A5 1 c5, v6_, .slice A10 1 c10) _ ⟨hHeld, HC.out, HV.out⟩)
            · skip
              refine Kd.R_lit_step (Kd.slice 38 k38) (w0 := w) w.heap.size 32 (by rfl) (N := 75) rfl (xs := [at_]) (inner := [.slice A12 at_.length n12]) (ok := fun _ => True) (okp := fun _ => True) ?hr ?hp (fun _ hk => hk) trivial HC.out.bel HC.out.bel.size (by simp) ?_
              case hr => first | (go_simp; done) | (go_simp; rfl)
              case hp => exact Reps.one ⟨_, rfl, HV.out⟩ (Reps.none _ _)
              intro v10_ w10_ hR hB hg hn
              have HC := Aside0.mk (HC.out.made hg hB)
              obtain ⟨A10, c10, e10⟩ : ∃ A c, v10_ = .slice A 1 c := Kd.R_slice hR
              subst e10
              have HV := Aside0.mk hR
              clear hR hB hg hn
              refine hK.out _ _ ⟨((blk_cell HC.out.bk 1).trans rfl), ((blk_cell HC.out.bk 2).trans rfl)⟩ (fun hHeld => ?_)
              clear hK K
              refine norm_ (a' := ?_) ?_ ?_
              rotate_left
              · show Act.put _ (some 75) _ = _
                simp only [Act.put, List.setIfInBounds_toArray, List.set_cons_zero, List.set_cons_succ, i64_w, i32_w]
                rfl
              refine one_ (i := 3) (N := some 68) (bm 1935 16) rfl rfl (by kernel_rfl) (by decide) (fun K hK => ?_)
              refine goes_ Try.func70 (by kernel_rfl) rfl #[.pointer (some ⟨gd, 0, none⟩), .int .i64 8] (by rfl) rfl rfl (by simp only [List.map_toArray, List.map_cons, List.map_nil]; rfl) ?_
              with_reducible refine (HC.out.roll_calls (by have := HU2.out; have := HIM.out; have := HM.out; omega) HZ1.out).mono ?_
              rintro e w3_ ⟨rfl, hJ, hfr, hsz⟩
              refine ⟨_, rfl, ?_⟩
              obtain ⟨csd, hgd⟩ := HC.out.dice.typed
              have HV := Aside0.mk (r_keep HV.out hgd (by decide) hfr)
              have HC := Aside0.mk hJ
              clear hJ hfr hsz hgd
              refine hK.out _ _ ⟨((blk_cell HC.out.bk 1).trans rfl), ((blk_cell HC.out.bk 2).trans rfl)⟩ (fun hHeld => ?_)
              clear hK K
              refine norm_ (a' := ?_) ?_ ?_
              rotate_left
              · show Act.put _ (some 68) _ = _
                simp only [Act.put, List.setIfInBounds_toArray, List.set_cons_zero, List.set_cons_succ, i64_w, i32_w]
                rfl
              refine pure_ (i := 4) (N := some 69) (v := ?_) (a' := ?_) (bm 1951 16) rfl rfl (by kernel_rfl) (fun _ _ _ h => h) (Or.inl ⟨by rfl, ?_⟩) ?_ ?_
              rotate_left
              · intro w'
                go_simp
                with_reducible rfl
              rotate_left
              · simp only [Act.put, List.setIfInBounds_toArray, List.set_cons_zero, List.set_cons_succ, i64_w, i32_w]
                rfl
              refine one_ (i := 5) (N := some 70) (bm 1983 16) rfl rfl (by kernel_rfl) (by decide) (fun K hK => ?_)
              refine Kd.R_lit_step Kd.bool (w0 := w) w.heap.size 4 (by rfl) (N := 70) rfl (xs := [zb]) (inner := [.bool zb]) (ok := fun _ => True) (okp := fun _ => True) ?hr ?hp (fun _ hk => hk) trivial HC.out.bel HC.out.bel.size (by simp) ?_
              case hr => first | (go_simp; done) | (go_simp; rfl)
              case hp => exact Reps.one rfl (Reps.none _ _)
              intro v5_ w5_ hR hB hg hn
              have HC := Aside0.mk (HC.out.made hg hB)
              have HV := Aside0.mk (Kd.R_grown HV.out hg (fun _ _ => by simp))
              obtain ⟨A5, c5, e5⟩ : ∃ A c, v5_ = .slice A 1 c := Kd.R_slice hR
              subst e5
              have H5 := Aside0.mk hR
              clear hR hB hg hn
              refine hK.out _ _ ⟨((blk_cell HC.out.bk 1).trans rfl), ((blk_cell HC.out.bk 2).trans rfl)⟩ (fun hHeld => ?_)
              clear hK K
              refine norm_ (a' := ?_) ?_ ?_
              rotate_left
              · show Act.put _ (some 70) _ = _
                simp only [Act.put, List.setIfInBounds_toArray, List.set_cons_zero, List.set_cons_succ, i64_w, i32_w]
                rfl
              refine one_ (i := 6) (N := some 71) (bm 2047 16) rfl rfl (by kernel_rfl) (by decide) (fun K hK => ?_)
              refine Kd.R_append_rows_step Kd.bool (w0 := w) w.heap.size (by rfl) (.tmp 66) (.tmp 70) 120 4 (.bool false) 1 rfl Try.underlying120 info4 rfl (by decide) (by decide) (.slice B7 Cs.length m7) Cs [zb] A5 1 c5 (fun _ => True) (fun _ => False) rfl rfl HC.out.rB (r_readsM H5.out) (fun _ _ h => h) (fun _ h => h.elim) (fun _ _ => trivial) HC.out.bel HC.out.bel.size (by have := HCL.out; omega) ?_
              intro v6_ w6_ hR hB hg hat
              have HV := Aside0.mk (r_other HV.out HC.out.rB (by decide) hg)
              rw [← HCX.out] at hR
              have HC := Aside0.mk (HC.out.appB hR hg hB)
              clear hR hB hg hat
              refine hK.out _ _ ⟨((blk_cell HC.out.bk 1).trans rfl), ((blk_cell HC.out.bk 2).trans rfl)⟩ (fun hHeld => ?_)
              clear hK K
              refine norm_ (a' := ?_) ?_ ?_
              rotate_left
              · show Act.put _ (some 71) _ = _
                simp only [Act.put, List.setIfInBounds_toArray, List.set_cons_zero, List.set_cons_succ, i64_w, i32_w]
                rfl
              refine pure_ (i := 12) (N := some 77) (v := ?_) (a' := ?_) (bm 6143 16) rfl rfl (by kernel_rfl) (fun _ _ _ h => h) (Or.inl ⟨by rfl, ?_⟩) ?_ ?_
              rotate_left
              · intro w'
                go_simp
                with_reducible rfl
              rotate_left
              · simp only [Act.put, List.setIfInBounds_toArray, List.set_cons_zero, List.set_cons_succ, i64_w, i32_w]
                rfl
              exact norm_ (by simp only [putAll, Act.put, List.setIfInBounds_toArray, List.set_cons_zero, List.set_cons_succ]) (hCont (.slice A5 1 c5, v6_, .slice A10 1 c10) _ ⟨hHeld, HC.out, HV.out⟩)
          rintro ⟨v70_, v71_, v75_⟩ w12_ ⟨hS_, hC_, hV_⟩
          replace hC_ : ChS w ga gd raw (rollU raw (rollU raw (rollU raw u))) Ax Cx Ts (.slice A7 Ax.length n7) (.slice B7 Cs.length m7) (.slice D7 Ts.length l7) (.slice A7 Ax.length n7) (v71_) (.slice D7 Ts.length l7) (.slice none 0 0) w12_ := hC_
          replace hV_ : Kd.R (Kd.slice 38 k38) 32 w12_ w.heap.size (fun _ => True) v75_ [at_] := hV_
          clear HC HV
          obtain ⟨A10, c10, e10⟩ : ∃ A c, v75_ = .slice A 1 c := Kd.R_slice hV_
          subst e10
          obtain ⟨A6, n6, e6⟩ := Kd.R_slice hC_.rB
          subst e6
          have HC := Aside0.mk hC_
          have HV := Aside0.mk hV_
          have hHeld : w12_.cell? ⟨ga, 1, none⟩ = some (.slice B7 Cs.length m7) ∧ w12_.cell? ⟨ga, 2, none⟩ = some (.slice D7 Ts.length l7) := hS_
          clear hS_ hC_ hV_
          refine norm_ (a' := ?_) ?_ ?_
          rotate_left
          · simp only [putAll, Act.put, List.setIfInBounds_toArray, List.set_cons_zero, List.set_cons_succ]
            rfl
          refine one_ (i := 11) (N := some 76) (bm 8191 16) rfl rfl (by kernel_rfl) (by decide) (fun K hK => ?_)
          refine Kd.R_append_rows_step (Kd.slice 38 k38) (w0 := w) w.heap.size (by rfl) (.tmp 73) (.tmp 75) 121 32 (.slice none 0 0) 24 rfl Try.underlying121 info32 rfl (by decide) (by decide) (.slice D7 Ts.length l7) Ts [at_] A10 1 c10 (fun _ => True) (fun k => (True ∧ some k ≠ (Value.slice A10 1 c10).ownBlock) ∧ some k ≠ (Value.slice D7 Ts.length l7).ownBlock) rfl rfl HC.out.rC (r_readsM HV.out) (fun _ _ h => m_apart h HC.out.rC (by decide)) (fun _ hk => ⟨trivial, hk.2⟩) (fun _ _ => trivial) HC.out.bel HC.out.bel.size (by have := HCL.out; omega) ?_
          intro v11_ w11_ hR hB hg hat
          rw [← HTX.out] at hR
          obtain ⟨A11, n11, e11⟩ := Kd.R_slice hR
          subst e11
          have HC := Aside0.mk (HC.out.appC hR hg hB)
          have hd1 : w11_.cell? ⟨ga, 1, none⟩ = some _ := (blk_cell HC.out.bk 1).trans rfl
          have hf1 := blk_frozen HC.out.bk 1
          clear hR hB hg hat
          refine hK.out _ _ ⟨((blk_cell HC.out.bk 1).trans rfl), ((blk_cell HC.out.bk 2).trans rfl)⟩ (fun hHeld => ?_)
          clear hK K
          refine norm_ (a' := ?_) ?_ ?_
          rotate_left
          · show Act.put _ (some 76) _ = _
            simp only [Act.put, List.setIfInBounds_toArray, List.set_cons_zero, List.set_cons_succ, i64_w, i32_w]
            rfl
          refine last_ (i := 13) (N := none) (bm 16383 16) rfl rfl (by kernel_rfl) (by decide) (fun K hK => ?_)
          refine skip_ (w1 := ?_) (by rfl) rfl ?_ ?_
          rotate_left
          · go_simp
            rfl
          have HC := Aside0.mk (HC.out.set 1 (.slice A6 Cx.length n6) (.slice A7 Ax.length n7) (.slice A6 Cx.length n6) (.slice D7 Ts.length l7) rfl)
          have hd2 := (blk_cell HC.out.bk 2).trans rfl
          have hf2 := blk_frozen HC.out.bk 2
          refine hK.out _ _ ?_
          clear hK K
          refine pure_ (i := 14) (N := some 78) (v := ?_) (a' := ?_) (bm 32767 16) rfl rfl (by kernel_rfl) (fun _ _ _ h => h) (Or.inl ⟨by rfl, ?_⟩) ?_ ?_
          rotate_left
          · intro w'
            go_simp
            with_reducible rfl
          rotate_left
          · simp only [Act.put, List.setIfInBounds_toArray, List.set_cons_zero, List.set_cons_succ, i64_w, i32_w]
            rfl
          refine last_ (i := 15) (N := none) (bm 65535 16) rfl rfl (by kernel_rfl) (by decide) (fun K hK => ?_)
          refine skip_ (w1 := ?_) (by rfl) rfl ?_ ?_
          rotate_left
          · go_simp
            rfl
          have HC := Aside0.mk (HC.out.set 2 (.slice A11 Tx.length n11) (.slice A7 Ax.length n7) (.slice A6 Cx.length n6) (.slice A11 Tx.length n11) rfl)
          refine hK.out _ _ ?_
          clear hK K
          refine done_ (by kernel_rfl) ?_
          have wk := HWI.out
          go_wp2
          go_roundg gl
          case measure => omega
          case rel => exact ⟨i + 1, _, Ax, Cx, Tx, _, _, _, by simp [wk], HIG, HC, HLL⟩
def UOK : Un → Prop
  | .keep t => VA true t
  | .cut => True
  | .add x => ElemOK x
theorem app_ok {t : List S38} {x : S84} (hx : ElemOK x) (ht : VA true t) : ElemOK (app t x) := ⟨hx.1, va_raw hx.2 ht⟩
theorem run_len : ∀ (u : List Un) (f : List S84), nold u = f.length → (run f u).1.length = nnew u
  | [], f, h => by simp [run, nnew]
  | .add x :: u, f, h => by simp only [run, nnew, List.length_cons, run_len u f h]
  | .keep t :: u, [], h => by simp [nold] at h
  | .cut :: u, [], h => by simp [nold] at h
  | .keep t :: u, x :: f, h => by
    simp only [nold, List.length_cons, Nat.add_right_cancel_iff] at h
    simp only [run, nnew, List.length_cons, run_len u f h]
  | .cut :: u, x :: f, h => by
    simp only [nold, List.length_cons, Nat.add_right_cancel_iff] at h
    simp only [run, nnew, run_len u f h]
theorem run_ok : ∀ (u : List Un) (f : List S84), (∀ x ∈ f, ElemOK x) → (∀ a ∈ u, UOK a) → ∀ x ∈ (run f u).1, ElemOK x
  | [], f, _, _, x, hx => by simp [run] at hx
  | .add y :: u, f, hf, hu, x, hx => by
    simp only [run, List.mem_cons] at hx
    rcases hx with rfl | hx
    · exact hu _ List.mem_cons_self
    · exact run_ok u f hf (fun a ha => hu a (List.mem_cons_of_mem _ ha)) x hx
  | .keep t :: u, [], hf, hu, x, hx => run_ok u [] hf (fun a ha => hu a (List.mem_cons_of_mem _ ha)) x (by simpa [run] using hx)
  | .cut :: u, [], hf, hu, x, hx => run_ok u [] hf (fun a ha => hu a (List.mem_cons_of_mem _ ha)) x (by simpa [run] using hx)
  | .keep t :: u, y :: f, hf, hu, x, hx => by
    simp only [run, List.mem_cons] at hx
    rcases hx with rfl | hx
    · exact app_ok (hf y List.mem_cons_self) (hu _ List.mem_cons_self)
    · exact run_ok u f (fun z hz => hf z (List.mem_cons_of_mem _ hz)) (fun a ha => hu a (List.mem_cons_of_mem _ ha)) x hx
  | .cut :: u, y :: f, hf, hu, x, hx => run_ok u f (fun z hz => hf z (List.mem_cons_of_mem _ hz)) (fun a ha => hu a (List.mem_cons_of_mem _ ha)) x (by simpa [run] using hx)
def UAt (A : Nat) : Un → Prop
  | .keep t => t.length ≤ A
  | .cut => True
  | .add x => x.f2.length ≤ A
theorem run_att {B A : Nat} : ∀ (u : List Un) (f : List S84), (∀ x ∈ f, x.f2.length ≤ B) → (∀ a ∈ u, UAt A a) → ∀ x ∈ (run f u).1, x.f2.length ≤ B + A
  | [], f, _, _, x, hx => by simp [run] at hx
  | .add y :: u, f, hf, hu, x, hx => by
    simp only [run, List.mem_cons] at hx
    rcases hx with rfl | hx
    · have : x.f2.length ≤ A := hu (.add x) List.mem_cons_self
      omega
    · exact run_att u f hf (fun a ha => hu a (List.mem_cons_of_mem _ ha)) x hx
  | .keep t :: u, [], hf, hu, x, hx => run_att u [] hf (fun a ha => hu a (List.mem_cons_of_mem _ ha)) x (by simpa [run] using hx)
  | .cut :: u, [], hf, hu, x, hx => run_att u [] hf (fun a ha => hu a (List.mem_cons_of_mem _ ha)) x (by simpa [run] using hx)
  | .keep t :: u, y :: f, hf, hu, x, hx => by
    simp only [run, List.mem_cons] at hx
    rcases hx with rfl | hx
    · have h1 : t.length ≤ A := hu (.keep t) List.mem_cons_self
      have h2 := hf y List.mem_cons_self
      have h3 := mrg_len rawE y.f2 t
      show (mrg rawE y.f2 t).length ≤ _
      omega
    · exact run_att u f (fun z hz => hf z (List.mem_cons_of_mem _ hz)) (fun a ha => hu a (List.mem_cons_of_mem _ ha)) x hx
  | .cut :: u, y :: f, hf, hu, x, hx => run_att u f (fun z hz => hf z (List.mem_cons_of_mem _ hz)) (fun a ha => hu a (List.mem_cons_of_mem _ ha)) x (by simpa [run] using hx)
theorem us_uok {s : S70} (h : StepOK s) : ∀ a ∈ us s, UOK a := by
  rcases h with h | h | h
  · rw [us_keep h.1]; intro a ha; rw [List.eq_of_mem_replicate ha]; exact h.2.2.2.2
  · rw [us_add h.1]; intro a ha; obtain ⟨x, hx, rfl⟩ := List.mem_map.1 ha; exact pok_mem.1 h.2.2.2.2 x hx
  · rw [us_cut h.1]; intro a ha; rw [List.eq_of_mem_replicate ha]; exact trivial
theorem units_uok {d : List S70} (h : ∀ s ∈ d, StepOK s) : ∀ a ∈ units d, UOK a := fun a ha => by
  obtain ⟨s, hs, ha⟩ := List.mem_flatMap.1 ha
  exact us_uok (h s hs) a ha
theorem us_uat {A : Nat} {s : S70} (h : StepOK s) (ht : SAt A s) : ∀ a ∈ us s, UAt A a := by
  rcases h with h | h | h
  · rw [us_keep h.1]; intro a ha; rw [List.eq_of_mem_replicate ha]; exact ht.1
  · rw [us_add h.1]; intro a ha; obtain ⟨x, hx, rfl⟩ := List.mem_map.1 ha; exact ht.2 x hx
  · rw [us_cut h.1]; intro a ha; rw [List.eq_of_mem_replicate ha]; exact trivial
theorem units_uat {A : Nat} {d : List S70} (h : ∀ s ∈ d, StepOK s) (ht : ∀ s ∈ d, SAt A s) : ∀ a ∈ units d, UAt A a := fun a ha => by
  obtain ⟨s, hs, ha⟩ := List.mem_flatMap.1 ha
  exact us_uat (h s hs) (ht s hs) a ha
def actU : List (List S84) → List Bool → List (List S38) → List Un
  | a :: As, c :: Cs, t :: Ts => a.map .add ++ (if c = true then [.cut] else [.keep t]) ++ actU As Cs Ts
  | a :: _, [], _ => a.map .add
  | _, _, _ => []
theorem dof_spec {A : Nat} (hA : A ≤ 1073741824) : ∀ (As : List (List S84)) (Cs : List Bool) (Ts : List (List S38)) (s : WD), WF A s → As.length = Cs.length + 1 → Ts.length = Cs.length → (∀ a ∈ As, ∀ x ∈ a, ElemOK x ∧ x.f2.length ≤ A) → (∀ t ∈ Ts, VA true t ∧ t.length ≤ A) →
    (wu s).length + (actU As Cs Ts).length ≤ 1073741823 → ∃ o, Ev (fun k => dofL k As Cs Ts s.out s.add s.cut) o ∧ FO A o ∧ E (units o) (wu s ++ actU As Cs Ts)
  | [], Cs, Ts, s, h, h1, _, _, _, _ => by simp at h1
  | a :: As, [], Ts, s, h, h1, h2, ha, ht, hl => by
    have hol := units_len h.ok
    have hwl := wu_len s
    rw [actU, List.length_map] at hl
    have hsa : WF A ⟨s.out, s.add ++ a, s.cut⟩ := ⟨h.ok, h.ord, h.last, pok_app h.add (pok_mem.2 (fun x hx => (ha a List.mem_cons_self x hx).1)), h.cut, h.att, fun y hy => by rcases List.mem_append.1 hy with hy | hy; exact h.atta y hy; exact (ha a List.mem_cons_self y hy).2⟩
    have hE : E (wu ⟨s.out, s.add ++ a, s.cut⟩) (wu s ++ a.map .add) := by
      have := (E.refl (units s.out ++ s.add.map .add)).app (E.swap s.cut.toNat a).symm
      simpa [wu, List.append_assoc] using this
    obtain ⟨f1, f2, f3, f4⟩ := flush_spec hsa (by rw [hE.len, List.length_append, List.length_map]; omega)
    refine ⟨_, Ev.congr (fun k => by rw [dofL, if_neg (by omega)]) (Ev.now _), f1, ?_⟩
    rw [f2]
    exact hE
  | a :: As, c :: Cs, [], s, h, _, h2, _, _, _ => by simp at h2
  | a :: As, c :: Cs, t :: Ts, s, h, h1, h2, ha, ht, hl => by
    have hol := units_len h.ok
    have hwl := wu_len s
    have hsc := h.cut
    rw [actU, List.length_append, List.length_append, List.length_map] at hl
    have hcl : (if c = true then [Un.cut] else [Un.keep t]).length = 1 := by split <;> rfl
    have hsa : WF A ⟨s.out, s.add ++ a, s.cut⟩ := ⟨h.ok, h.ord, h.last, pok_app h.add (pok_mem.2 (fun x hx => (ha a List.mem_cons_self x hx).1)), h.cut, h.att, fun y hy => by rcases List.mem_append.1 hy with hy | hy; exact h.atta y hy; exact (ha a List.mem_cons_self y hy).2⟩
    have hE : E (wu ⟨s.out, s.add ++ a, s.cut⟩) (wu s ++ a.map .add) := by
      have := (E.refl (units s.out ++ s.add.map .add)).app (E.swap s.cut.toNat a).symm
      simpa [wu, List.append_assoc] using this
    have hEl : (wu ⟨s.out, s.add ++ a, s.cut⟩).length = (wu s).length + a.length := by rw [hE.len, List.length_append, List.length_map]
    have h1' : As.length = Cs.length + 1 := by simpa using h1
    have h2' : Ts.length = Cs.length := by simpa using h2
    have ha' : ∀ b ∈ As, ∀ x ∈ b, ElemOK x ∧ x.f2.length ≤ A := fun b hb => ha b (List.mem_cons_of_mem _ hb)
    have ht' : ∀ u ∈ Ts, VA true u ∧ u.length ≤ A := fun u hu => ht u (List.mem_cons_of_mem _ hu)
    cases c with
    | true =>
      obtain ⟨w1, u1⟩ := cut_spec 1 hsa (by omega)
      obtain ⟨o, e2, fo, eu⟩ := dof_spec hA As Cs Ts ⟨s.out, s.add ++ a, s.cut + 1⟩ w1 h1' h2' ha' ht' (by rw [u1, List.length_append, hEl]; simp only [Int.toNat_one, List.length_replicate]; omega)
      refine ⟨o, Ev.congr (fun k => by rw [dofL, if_neg (by omega), if_pos rfl, w64 (by omega) (by omega)]) e2, fo, eu.trans ?_⟩
      rw [u1, actU, if_pos rfl]
      have := (hE.app (E.refl ([Un.cut] ++ actU As Cs Ts)))
      simpa [List.append_assoc] using this
    | false =>
      have core := keep_core 1 t hsa (ht t List.mem_cons_self).1 (ht t List.mem_cons_self).2 hA (by omega) (by rw [hEl]; omega)
      obtain ⟨f1, f2, f3, f4⟩ := flush_spec hsa (by rw [hEl]; omega)
      obtain ⟨b, hb, hbi⟩ := dofB_ev t f1 hA
      obtain ⟨w1, u1⟩ := core b hbi
      obtain ⟨o, e2, fo, eu⟩ := dof_spec hA As Cs Ts _ w1 h1' h2' ha' ht' (by rw [u1, List.length_append, hEl]; simp only [Int.toNat_one, List.length_replicate]; omega)
      refine ⟨o, Ev.congr (fun k => by rw [dofL, if_neg (by omega), if_neg (by decide)]) (Ev.bind hb e2), fo, eu.trans ?_⟩
      rw [u1, actU, if_neg (by decide)]
      have := (hE.app (E.refl ([Un.keep t] ++ actU As Cs Ts)))
      simpa [List.append_assoc] using this
theorem roll8_ev (raw : List Int) (u : Nat) : ∃ x, rollF raw u 8 = some x ∧ 0 ≤ x ∧ x ≤ 7 := by
  have : ∃ x, rollF raw u 8 = some x := by
    unfold rollF
    split
    · exact ⟨_, rfl⟩
    · rw [show wrap64 (8 - 1) = 7 by unfold wrap64; omega]
      obtain ⟨r, hr, _⟩ := within_ev (wrap64 (rd raw ((u % raw.length : Nat) : Int) + (((u + 1) / raw.length : Nat) : Int))) 7 (by omega) (by omega)
      exact ⟨r, hr⟩
  obtain ⟨x, hx⟩ := this
  exact ⟨x, hx, roll8_range hx⟩
structure NmOK (name : ByteArray) : Prop where
  nm : NameOK name
  val : ValOK name
  lt : Op.bytesLess sBold.toList name.toList = true
theorem on_ok : ValOK sOn := by
  refine ⟨by decide, by decide, fun i h0 h1 => ?_⟩
  have : i = 0 ∨ i = 1 := by have : sOn.size = 2 := rfl; omega
  rcases this with rfl | rfl <;> decide
theorem bold_ok : NameOK sBold := by
  refine ⟨by decide, by decide, fun i h0 h1 => ?_⟩
  have : i = 0 ∨ i = 1 ∨ i = 2 ∨ i = 3 := by have : sBold.size = 4 := rfl; omega
  rcases this with rfl | rfl | rfl | rfl <;> exact .inl (by decide)
theorem va_one {ch : Bool} {x : S38} (h : ElOK ch x) : VA ch [x] := ⟨fun y hy => by rw [List.mem_singleton.1 hy]; exact h, List.pairwise_singleton _ _⟩
theorem on_va {ch : Bool} {name : ByteArray} (h : NmOK name) : VA ch (onL name) := va_one ⟨h.nm, .inl on_ok⟩
theorem attrsL_ok (y : Int) {name : ByteArray} (h : NmOK name) : VA true (attrsL y name) ∧ (attrsL y name).length ≤ 2 := by
  unfold attrsL
  split
  · exact ⟨va_one ⟨bold_ok, .inl on_ok⟩, by simp [onL]⟩
  · split
    · exact ⟨va_one ⟨bold_ok, .inr ⟨rfl, rfl⟩⟩, by simp⟩
    · split
      · refine ⟨⟨fun x hx => ?_, ?_⟩, by simp⟩
        · simp only [List.mem_cons, List.not_mem_nil, or_false] at hx
          rcases hx with rfl | rfl
          · exact ⟨bold_ok, .inl h.val⟩
          · exact ⟨h.nm, .inl on_ok⟩
        · refine List.Pairwise.cons (fun y hy => ?_) (List.pairwise_singleton _ _)
          rw [List.mem_singleton.1 hy]
          exact h.lt
      · exact ⟨va_nil _, by simp⟩
theorem addsL_ok {name : ByteArray} (h : NmOK name) (i : Nat) : ∀ j, ∀ x ∈ addsL i name j, ElemOK x ∧ x.f2.length ≤ 2 ∧ x.f2 = onL name ∧ x.f1 = 0 ∧ 65 ≤ x.f0 ∧ x.f0 ≤ 90
  | 0, x, hx => by cases hx
  | j + 1, x, hx => by
    rw [addsL, List.mem_append] at hx
    rcases hx with hx | hx
    · exact addsL_ok h i j x hx
    · rw [List.mem_singleton.1 hx]
      have := q_lt i j
      exact ⟨⟨.inr ⟨rfl, by unfold CharOK; simp only; omega⟩, on_va h⟩, by simp [onL], rfl, rfl, by simp only; omega, by simp only; omega⟩
theorem chL_spec (raw : List Int) {name : ByteArray} (h : NmOK name) : ∀ (m i u : Nat) (As : List (List S84)) (Cs : List Bool) (Ts : List (List S38)), (∀ a ∈ As, a.length ≤ 2 ∧ ∀ x ∈ a, ElemOK x ∧ x.f2.length ≤ 2 ∧ x.f2 = onL name ∧ x.f1 = 0 ∧ 65 ≤ x.f0 ∧ x.f0 ≤ 90) → (∀ t ∈ Ts, VA true t ∧ t.length ≤ 2) →
    ∃ w, chL raw name m i u As Cs Ts = some w ∧ (∀ a ∈ w.1, a.length ≤ 2 ∧ ∀ x ∈ a, ElemOK x ∧ x.f2.length ≤ 2 ∧ x.f2 = onL name ∧ x.f1 = 0 ∧ 65 ≤ x.f0 ∧ x.f0 ≤ 90) ∧ (∀ t ∈ w.2.2, VA true t ∧ t.length ≤ 2)
  | 0, i, u, As, Cs, Ts, ha, ht => by
    obtain ⟨x, hx, h0, h7⟩ := roll8_ev raw u
    refine ⟨_, by rw [chL, hx]; rfl, fun a hm => ?_, ht⟩
    rcases List.mem_append.1 hm with hm | hm
    · exact ha a hm
    · rw [List.mem_singleton.1 hm]
      exact ⟨by rw [addsL_len]; omega, addsL_ok h i _⟩
  | m + 1, i, u, As, Cs, Ts, ha, ht => by
    obtain ⟨x, hx, h0, h7⟩ := roll8_ev raw u
    obtain ⟨y, hy, _⟩ := roll8_ev raw (rollU raw u)
    obtain ⟨z, hz, _⟩ := roll8_ev raw (rollU raw (rollU raw u))
    obtain ⟨t, e, h1, h2⟩ := chL_spec raw h m (i + 1) (rollU raw (rollU raw (rollU raw u))) (As ++ [addsL i name (x - 5).toNat]) (Cs ++ [z == 0]) (Ts ++ [attrsL y name])
      (fun a hm => by
        rcases List.mem_append.1 hm with hm | hm
        · exact ha a hm
        · rw [List.mem_singleton.1 hm]
          exact ⟨by rw [addsL_len]; omega, addsL_ok h i _⟩)
      (fun t hm => by
        rcases List.mem_append.1 hm with hm | hm
        · exact ht t hm
        · rw [List.mem_singleton.1 hm]
          exact attrsL_ok y h)
    exact ⟨t, by rw [chL, hx, Option.bind_some, hy, Option.bind_some, hz, Option.bind_some]; exact e, h1, h2⟩
theorem actU_counts : ∀ (As : List (List S84)) (Cs : List Bool) (Ts : List (List S38)), As.length = Cs.length + 1 → Ts.length = Cs.length → (∀ a ∈ As, a.length ≤ 2) → nold (actU As Cs Ts) = Cs.length ∧ (actU As Cs Ts).length ≤ 3 * Cs.length + 2
  | [], Cs, Ts, h1, _, _ => by simp at h1
  | a :: As, [], Ts, _, _, ha => by have := ha a List.mem_cons_self; rw [actU, nold_adds, List.length_map]; exact ⟨rfl, by simp; omega⟩
  | a :: As, c :: Cs, [], _, h2, _ => by simp at h2
  | a :: As, c :: Cs, t :: Ts, h1, h2, ha => by
    have := ha a List.mem_cons_self
    have ih := actU_counts As Cs Ts (by simpa using h1) (by simpa using h2) (fun b hb => ha b (List.mem_cons_of_mem _ hb))
    rw [actU, nold_app, nold_app, nold_adds, List.length_append, List.length_append, List.length_map, List.length_cons]
    cases c <;> simp [nold] <;> omega
structure ChOK (name : ByteArray) (n : Nat) (o : List S70) : Prop where
  fo : FO 2 o
  ex : ∃ As Cs Ts, E (units o) (actU As Cs Ts) ∧ As.length = Cs.length + 1 ∧ Ts.length = Cs.length ∧ Cs.length = n ∧ (∀ a ∈ As, a.length ≤ 2 ∧ ∀ x ∈ a, ElemOK x ∧ x.f2.length ≤ 2 ∧ x.f2 = onL name ∧ x.f1 = 0 ∧ 65 ≤ x.f0 ∧ x.f0 ≤ 90) ∧ (∀ t ∈ Ts, VA true t ∧ t.length ≤ 2)
theorem change_ev (n : Nat) (raw : List Int) {name : ByteArray} (h : NmOK name) (hn : n ≤ 1048576) : ∃ o, Ev (fun k => changeF k (n : Int) raw name) o ∧ ChOK name n o := by
  obtain ⟨t, e, h1, h2⟩ := chL_spec raw h n 0 0 [] [] [] (fun a ha => by cases ha) (fun a ha => by cases ha)
  have hlen := chL_len _ _ _ _ _ _ _ _ _ e
  simp only [List.length_nil] at hlen
  have hc := actU_counts t.1 t.2.1 t.2.2 (by omega) (by omega) (fun a ha => (h1 a ha).1)
  obtain ⟨o, e2, fo, eu⟩ := dof_spec (A := 2) (by omega) t.1 t.2.1 t.2.2 ⟨[], [], 0⟩ (WF.nil 2) (by omega) (by omega) (fun a ha x hx => ⟨((h1 a ha).2 x hx).1, ((h1 a ha).2 x hx).2.1⟩) h2 (by show 0 + _ ≤ _; omega)
  exact ⟨o, Ev.congr (fun k => by rw [changeF, if_pos (by omega), Int.toNat_natCast, e, Option.bind_some]) e2, fo, t.1, t.2.1, t.2.2, eu, by omega, by omega, by omega, h1, h2⟩
theorem ChOK.counts {name : ByteArray} {n : Nat} {o : List S70} (h : ChOK name n o) : nold (units o) = n ∧ (units o).length ≤ 3 * n + 2 := by
  obtain ⟨As, Cs, Ts, eu, h1, h2, h3, h4, h5⟩ := h.ex
  have := actU_counts As Cs Ts h1 h2 (fun a ha => (h4 a ha).1)
  rw [eu.old, eu.len]
  omega
theorem let_ab : chancerykeep1_letters.f 20 (⟨#[97, 98]⟩ : ByteArray) = some [⟨97, 0, []⟩, ⟨98, 0, []⟩] := by kernel_rfl
theorem let_x : chancerykeep1_letters.f 20 (⟨#[120]⟩ : ByteArray) = some [⟨120, 0, []⟩] := by kernel_rfl
theorem let_xb : chancerykeep1_letters.f 20 (⟨#[120, 98]⟩ : ByteArray) = some [⟨120, 0, []⟩, ⟨98, 0, []⟩] := by kernel_rfl
theorem app_ab : delta_Apply.f 40 [⟨97, 0, []⟩, ⟨98, 0, []⟩] [⟨1, 0, [], [⟨120, 0, []⟩]⟩, ⟨2, 1, [], []⟩, ⟨0, 1, [], []⟩] = some ([⟨120, 0, []⟩, ⟨98, 0, []⟩], 0) := by kernel_rfl
theorem same_xb : chanceryref1_SameFlow.f 40 [⟨120, 0, []⟩, ⟨98, 0, []⟩] [⟨120, 0, []⟩, ⟨98, 0, []⟩] = some true := by kernel_rfl
set_option maxRecDepth 100000 in
set_option maxHeartbeats 800000 in
theorem deltas_calls (w : World) : Calls Try.prog 41 #[] w fun e w' => e = .returned (.bool true) ∧ Below w.heap.size w w' := by
  have hu70 := Try.underlying70
  have HB0 := Aside0.mk (Below.refl w.heap.size w)
  obtain ⟨la, hla⟩ : ∃ l : List S84, l = [⟨97, 0, []⟩, ⟨98, 0, []⟩] := ⟨_, rfl⟩
  obtain ⟨lx, hlx⟩ : ∃ l : List S84, l = [⟨120, 0, []⟩] := ⟨_, rfl⟩
  obtain ⟨lr, hlr⟩ : ∃ l : List S84, l = [⟨120, 0, []⟩, ⟨98, 0, []⟩] := ⟨_, rfl⟩
  have H1 := Aside0.mk let_ab
  have H2 := Aside0.mk let_x
  have H3 := Aside0.mk app_ab
  have H4 := Aside0.mk let_xb
  have H5 := Aside0.mk same_xb
  rw [← hla] at H1 H3
  rw [← hlx] at H2 H3
  obtain ⟨ld, hld⟩ : ∃ l : List S70, l = [⟨1, 0, [], lx⟩, ⟨2, 1, [], []⟩, ⟨0, 1, [], []⟩] := ⟨_, rfl⟩
  rw [← hld] at H3
  have HLD := Aside0.mk hld
  clear hld
  rw [← hlr] at H3 H4 H5
  clear hla hlx hlr
  go_enter Try.func41, Try.ntmps41
  go_upto_region 2 with (first
    | (go_at_call 81; with_reducible refine (chancerykeep1_letters.calls 20 _ la _ H1.out).mono ?_; rintro e w1 ⟨v1, rfl, hN1, hb1⟩; obtain ⟨A1, n1, rfl⟩ := Kd.S_slice hN1; have HN1 := Aside0.mk hN1; have HB1 := Aside0.mk hb1; clear hN1 hb1)
    | (go_at_call 81; with_reducible refine (chancerykeep1_letters.calls 20 _ lx _ H2.out).mono ?_; rintro e w2 ⟨v2, rfl, hN2, hb2⟩; obtain ⟨A2, n2, rfl⟩ := Kd.S_slice hN2; have HN2 := Aside0.mk hN2; have HB2 := Aside0.mk (below_step HB1.out hb2); have HN1' := Aside0.mk (Kd.S_below HN1.out hb2); clear hN2 hb2 HN1)
    | ((with_reducible refine gate_dst (N := 9) rfl ?_); refine Kd.N_lit k70 w2.heap.size 70 ?hg (N' := 9) ?hd (xs := [⟨1, 0, [], lx⟩, ⟨2, 1, [], []⟩, ⟨0, 1, [], []⟩]) (inner := [.int .i64 1, .int .i64 0, .slice none 0 0, .slice A2 lx.length n2, .int .i64 2, .int .i64 1, .slice none 0 0, .slice none 0 0, .int .i64 0, .int .i64 1, .slice none 0 0, .slice none 0 0]) (ok := fun _ => True) (okp := fun _ => True) ?hr ?hp (fun _ hk => hk) trivial (Below.refl _ _) (Nat.le_refl _) (by simp) ?_; (case hd => rfl); (case hg => rfl); (case hr => first | (go_simp; done) | (go_simp; rfl)); (case hp => exact Reps.c4 (k70_mkF _ _ ⟨1, 0, [], lx⟩ (Nat.le_refl 0) (Kd.F_nil _ _ _) (Kd.N_reads' (Kd.S_N HN2.out)).2.1 (Kd.S_F HN2.out)) (Reps.c4 (k70_mkF _ _ ⟨2, 1, [], []⟩ (Nat.le_refl 0) (Kd.F_nil _ _ _) (Nat.le_refl 0) (Kd.F_nil _ _ _)) (Reps.c4 (k70_mkF _ _ ⟨0, 1, [], []⟩ (Nat.le_refl 0) (Kd.F_nil _ _ _) (Nat.le_refl 0) (Kd.F_nil _ _ _)) (Reps.none _ _)))); intro v3 w3 hN3 hb3 hg3 hat3; rw [← HLD.out] at hN3; obtain ⟨A3, n3, rfl⟩ := Kd.N_slice hN3; have HN3 := Aside0.mk hN3; have HB3 := Aside0.mk (below_step HB2.out hb3); have HN1 := Aside0.mk (Kd.S_below HN1'.out hb3); clear hN3 hb3 hg3 hat3 HN1')
    | (go_at_call 48; with_reducible refine (delta_Apply.calls 40 (fun _ => True) A1 n1 la A3 n3 ld lr 0 _ (Kd.S_V HN1.out) (Kd.N_reads' HN3.out).2.2 (Kd.N_reads' HN3.out).2.1 H3.out).mono ?_; rintro e w4 ⟨v4, rfl, hN4, hb4⟩; obtain ⟨A4, n4, rfl⟩ := Kd.N_slice hN4; have HN4 := Aside0.mk hN4; have HB4 := Aside0.mk (below_step HB3.out hb4); clear hN4 hb4))
  go_wp2_with (first
    | (go_at_call 81; with_reducible refine (chancerykeep1_letters.calls 20 _ lr _ H4.out).mono ?_; rintro e w5 ⟨v5, rfl, hN5, hb5⟩; obtain ⟨A5, n5, rfl⟩ := Kd.S_slice hN5; have HN5 := Aside0.mk hN5; have HB5 := Aside0.mk (below_step HB4.out hb5); have HN4' := Aside0.mk (Kd.N_below HN4.out hb5); clear hN5 hb5 HN4)
    | (go_at_call 50; with_reducible refine (chanceryref1_SameFlow.calls 40 A4 n4 lr A5 n5 lr true _ (Kd.N_reads' HN4'.out).2.2 (Kd.N_reads' HN4'.out).2.1 (Kd.N_reads' (Kd.S_N HN5.out)).2.2 (Kd.N_reads' (Kd.S_N HN5.out)).2.1 H5.out).mono ?_; rintro e w6 ⟨rfl, hb6⟩; have HB6 := Aside0.mk (below_step HB5.out hb6); clear hb6))
  go_ret
  exact ⟨rfl, HB6.out⟩
theorem drawn_below {w w' : World} (h : Drawn0 w w') : Below w.heap.size w w' := by
  obtain ⟨n, rfl⟩ := h
  exact pw_below_drewN (Below.refl _ _) n
def FFine (f : List S84) : Prop := f.length ≤ 1048576 ∧ ∀ x ∈ f, Small x.f2 ∧ x.f2.length ≤ 1048576
theorem FFine.fsmall {f : List S84} (h : FFine f) : FSmall f := ⟨by have := h.1; omega, fun x hx => ⟨(h.2 x hx).1, by have := (h.2 x hx).2; omega⟩⟩
theorem FFine.lb {f : List S84} (h : FFine f) : LB 1048576 f := ⟨h.1, fun x hx => (h.2 x hx).2⟩
end Go.Proofs.Ytdgemabmmomebaa.PDelta
end
section
namespace Go.Proofs.Ytdgemabmmomebaa.PDelta
open Go.RowKit Go.Proofs.YtdgemabmmomebaaW.PrintWords Go.Proofs.YtdgemabmmomebaaW.PrintLast Go.Proofs.YtdgemabmmomebaaW.PrintMore
end Go.Proofs.Ytdgemabmmomebaa.PDelta
end
section
namespace Go.Proofs.Ytdgemabmmomebaa.PDelta
open Go.RowKit Go.Proofs.YtdgemabmmomebaaW.PrintWords Go.Proofs.YtdgemabmmomebaaW.PrintLast Go.Proofs.YtdgemabmmomebaaW.PrintMore
theorem small_nil : Small [] := ⟨Nat.zero_le _, fun x hx => by cases hx⟩
def cut40 (f : List S84) : List S84 := if 40 < f.length then f.take 40 else f
structure RdS (w0 : World) (g : Nat) (l : List S70) (u : Nat) (w : World) : Prop where
  ge : w0.heap.size ≤ g
  bel : Below w0.heap.size w0 w
  ex : ∃ (A : Option Addr) (c : Nat), w.heap[g]? = some (.cells #[.slice A l.length c, .int .i64 (u : Int)] 138 (0, 0)) ∧ l.length ≤ c ∧ Kd.C k70 w0 A l.length l
theorem RdS.below {w0 w w1 : World} {g u : Nat} {l : List S70} (h : RdS w0 g l u w) (hb : Below w.heap.size w w1) : RdS w0 g l u w1 := by
  obtain ⟨A, c, hk, hc, hC⟩ := h.ex
  exact ⟨h.ge, below_step h.bel hb, A, c, (hb.block _ (blk_lt hk)).trans hk, hc, hC⟩
theorem RdS.typed {w0 w : World} {g u : Nat} {l : List S70} (h : RdS w0 g l u w) : ∃ cs, w.heap[g]? = some (.cells cs 138 (0, 0)) := by
  obtain ⟨A, c, hk, hc, hC⟩ := h.ex
  exact ⟨_, hk⟩
theorem RdS.frame {w0 w w1 : World} {g u : Nat} {l : List S70} (h : RdS w0 g l u w) (hb : w1.heap[g]? = w.heap[g]?) (hB : Below w0.heap.size w0 w1) : RdS w0 g l u w1 := by
  obtain ⟨A, c, hk, hc, hC⟩ := h.ex
  exact ⟨h.ge, hB, A, c, hb.trans hk, hc, hC⟩
def kindR : List S70 → Int
  | [] => -1
  | x :: _ => x.f0
def szS (x : S70) : Int := if x.f0 = 1 then (x.f3.length : Int) else x.f1
theorem first_cells {w0 w : World} {A : Option Addr} {x : S70} {r : List S70} (hC : Kd.C k70 w0 A (x :: r).length (x :: r)) (hB : Below w0.heap.size w0 w) :
    ∃ ad A2 c2 A3 c3, A = some ad ∧ w.cell? ad = some (.int .i64 x.f0) ∧ w.cell? ⟨ad.block, ad.off + 1, none⟩ = some (.int .i64 x.f1) ∧ w.cell? ⟨ad.block, ad.off + 2, none⟩ = some (.slice A2 x.f2.length c2) ∧ w.cell? ⟨ad.block, ad.off + 3, none⟩ = some (.slice A3 x.f3.length c3) ∧
      x.f2.length ≤ c2 ∧ Kd.C k38 w0 A2 x.f2.length x.f2 ∧ x.f3.length ≤ c3 ∧ Kd.C k84 w0 A3 x.f3.length x.f3 := by
  obtain ⟨ad0, A2, c2, A3, c3, e0, hx0, hx1, hx2, hx3, hl2, hg2, hl3, hg3⟩ := at_T70 hC 0 (by omega) (by simp)
  have h0 : rd_T70 (x :: r) 0 = x := rfl
  rw [h0] at hx0 hx1 hx2 hx3 hl2 hg2 hl3 hg3
  have hz : ad0.add ((0 : Int).toNat * 4) = ad0 := by simp [Addr.add_zero']
  rw [hz] at hx0 hx1 hx2 hx3
  exact ⟨ad0, A2, c2, A3, c3, e0, (hB.cell (World.block_lt_of_cell? w0 _ hx0)).trans hx0, (hB.cell (World.block_lt_of_cell? w0 _ hx1)).trans hx1, (hB.cell (World.block_lt_of_cell? w0 _ hx2)).trans hx2, (hB.cell (World.block_lt_of_cell? w0 _ hx3)).trans hx3, hl2, hg2, hl3, hg3⟩
set_option maxRecDepth 100000 in
set_option maxHeartbeats 4000000 in
theorem kind_calls (w0 : World) (g : Nat) (l : List S70) (u : Nat) (w : World) (h : RdS w0 g l u w) :
    Calls Try.prog 95 #[.pointer (some ⟨g, 0, none⟩)] w fun e w' => e = .returned (.int .i64 (kindR l)) ∧ w' = w := by
  have hu138 := Try.underlying138
  have hu70 := Try.underlying70
  obtain ⟨A, c, hk, hc, hC⟩ := h.ex
  have hc0 : w.cell? ⟨g, 0, none⟩ = some (.slice A l.length c) := (blk_cell hk 0).trans rfl
  cases l with
  | nil =>
    clear hC hk h hc
    go_enter Try.func95, Try.ntmps95
    go_wp2
    first | go_ret | go_ret2
    exact ⟨rfl, rfl⟩
  | cons x r =>
    obtain ⟨ad, A2, c2, A3, c3, rfl, hx0, hx1, hx2, hx3, _⟩ := first_cells hC h.bel
    have g1 : (((x :: r).length : Int) == 0) = false := beq_eq_false_iff_ne.mpr (by simp; omega)
    have g1' : ((x :: r).length == 0) = false := rfl
    obtain ⟨n, hn⟩ : ∃ n, n = (x :: r).length := ⟨_, rfl⟩
    have hn1 : (0 : Int) < (n : Int) := by rw [hn]; simp
    have hn2 : 0 < n := by omega
    rw [← hn] at hc0 g1 g1'
    clear hC hk h hc hn
    go_enter Try.func95, Try.ntmps95
    go_wp2
    first | go_ret | go_ret2
    exact ⟨rfl, rfl⟩
set_option maxRecDepth 100000 in
set_option maxHeartbeats 4000000 in
theorem left_calls (w0 : World) (g : Nat) (x : S70) (r : List S70) (u : Nat) (w : World) (h : RdS w0 g (x :: r) u w) :
    Calls Try.prog 97 #[.pointer (some ⟨g, 0, none⟩)] w fun e w' => e = .returned (.int .i64 (wrap64 (szS x - (u : Int)))) ∧ Below w.heap.size w w' := by
  have hu138 := Try.underlying138
  have hu70 := Try.underlying70
  have HS := Aside0.mk h
  obtain ⟨A, c, hk, hc, hC⟩ := h.ex
  obtain ⟨ad, A2, c2, A3, c3, rfl, hx0, hx1, hx2, hx3, hl2, hg2, hl3, hg3⟩ := first_cells hC h.bel
  obtain ⟨n, hn⟩ : ∃ n, n = (x :: r).length := ⟨_, rfl⟩
  have hn1 : (0 : Int) < (n : Int) := by rw [hn]; simp
  have hn2 : 0 < n := by omega
  rw [← hn] at hk
  have HK := Aside0.mk hk
  have HX := Aside0.mk (And.intro hx0 (And.intro hx1 (And.intro hx2 hx3)))
  have HB0 := Aside0.mk (below_drew1 (Below.refl w.heap.size w))
  have HG2 := Aside0.mk (And.intro hg2 hl2)
  have HG3 := Aside0.mk (And.intro hg3 hl3)
  have HSZ := Aside0.mk (show delta_size.f x.f0 x.f1 x.f2 x.f3 = some (szS x) by unfold delta_size.f szS; split <;> rfl)
  clear hx0 hx1 hx2 hx3 hC hk h hc hl2 hg2 hl3 hg3 hn
  go_enter Try.func97, Try.ntmps97
  go_upto_region 1 with (fail)
  refine start_ (n := 13) (S := fun w' => w'.cell? ⟨g, 0, none⟩ = some (.slice (some ad) n c) ∧ w'.cell? ⟨g, 1, none⟩ = some (.int .i64 (u : Int)) ∧ w'.cell? ad = some (.int .i64 x.f0) ∧ w'.cell? ⟨ad.block, ad.off + 1, none⟩ = some (.int .i64 x.f1) ∧ w'.cell? ⟨ad.block, ad.off + 2, none⟩ = some (.slice A2 x.f2.length c2) ∧ w'.cell? ⟨ad.block, ad.off + 3, none⟩ = some (.slice A3 x.f3.length c3)) (ds := []) #[false, false, false, false, false, false, false, false, false, false, false, false, false] (by kernel_rfl) rfl rfl ⟨((HB0.out.cell (World.block_lt_of_cell? w _ ((blk_cell HK.out 0).trans rfl))).trans ((blk_cell HK.out 0).trans rfl)), ((HB0.out.cell (World.block_lt_of_cell? w _ ((blk_cell HK.out 1).trans rfl))).trans ((blk_cell HK.out 1).trans rfl)), ((HB0.out.cell (World.block_lt_of_cell? w _ HX.out.1)).trans HX.out.1), ((HB0.out.cell (World.block_lt_of_cell? w _ HX.out.2.1)).trans HX.out.2.1), ((HB0.out.cell (World.block_lt_of_cell? w _ HX.out.2.2.1)).trans HX.out.2.2.1), ((HB0.out.cell (World.block_lt_of_cell? w _ HX.out.2.2.2)).trans HX.out.2.2.2)⟩ (fun hHeld => ?_)
  refine pure_ (i := 0) (N := some 3) (v := ?_) (a' := ?_) (bm 1 13) rfl rfl (by kernel_rfl) (fun _ _ _ h => h) (Or.inl ⟨by rfl, ?_⟩) ?_ ?_
  rotate_left
  · intro w'
    go_simp
    with_reducible rfl
  rotate_left
  · simp only [Act.put, List.setIfInBounds_toArray, List.set_cons_zero, List.set_cons_succ, i64_w, i32_w]
    rfl
  refine pure_ (i := 1) (N := some 4) (v := ?_) (a' := ?_) (bm 3 13) rfl rfl (by kernel_rfl) (fun _ _ _ h => h) (Or.inl ⟨by rfl, ?_⟩) ?_ ?_
  rotate_left
  · intro w'
    go_simp
    with_reducible rfl
  rotate_left
  · simp only [Act.put, List.setIfInBounds_toArray, List.set_cons_zero, List.set_cons_succ, i64_w, i32_w]
    rfl
  refine pure_ (i := 2) (N := some 5) (v := ?_) (a' := ?_) (bm 7 13) rfl rfl (by kernel_rfl) (fun _ _ _ h => h) (Or.inl ⟨by rfl, ?_⟩) ?_ ?_
  rotate_left
  · intro w'
    go_simp
    with_reducible rfl
  rotate_left
  · simp only [Act.put, List.setIfInBounds_toArray, List.set_cons_zero, List.set_cons_succ, i64_w, i32_w]
    rfl
  refine pure_ (i := 7) (N := some 10) (v := ?_) (a' := ?_) (bm 135 13) rfl rfl (by kernel_rfl) (fun _ _ _ h => h) (Or.inl ⟨by rfl, ?_⟩) ?_ ?_
  rotate_left
  · intro w'
    go_simp
    with_reducible rfl
  rotate_left
  · simp only [Act.put, List.setIfInBounds_toArray, List.set_cons_zero, List.set_cons_succ, i64_w, i32_w]
    rfl
  refine pure_ (i := 8) (N := some 11) (v := ?_) (a' := ?_) (bm 391 13) rfl rfl (by kernel_rfl) (fun _ _ _ h => h) (Or.inl ⟨by rfl, ?_⟩) ?_ ?_
  rotate_left
  · intro w'
    go_simp
    with_reducible rfl
  rotate_left
  · simp only [Act.put, List.setIfInBounds_toArray, List.set_cons_zero, List.set_cons_succ, i64_w, i32_w]
    rfl
  refine pure_ (i := 9) (N := some 12) (v := ?_) (a' := ?_) (bm 903 13) rfl rfl (by kernel_rfl) (fun _ _ _ h => h) (Or.inl ⟨by rfl, ?_⟩) ?_ ?_
  rotate_left
  · intro w'
    go_simp
    with_reducible rfl
  rotate_left
  · simp only [Act.put, List.setIfInBounds_toArray, List.set_cons_zero, List.set_cons_succ, i64_w, i32_w]
    rfl
  refine take_ (i := 3) (N := some 6) (v := ?_) (a' := ?_) (bm 911 13) rfl rfl (by kernel_rfl) (fun _ _ _ h => h) (Or.inl ⟨by rfl, ?_⟩) hHeld ?_ ?_
  rotate_left
  · rintro w' ⟨s0, s1, s2, s3, s4, s5⟩
    go_simp
    with_reducible rfl
  rotate_left
  · simp only [Act.put, List.setIfInBounds_toArray, List.set_cons_zero, List.set_cons_succ, i64_w, i32_w]
    rfl
  refine pure_ (i := 4) (N := some 7) (v := ?_) (a' := ?_) (bm 927 13) rfl rfl (by kernel_rfl) (fun _ _ _ h => h) (Or.inl ⟨by rfl, ?_⟩) ?_ ?_
  rotate_left
  · intro w'
    go_simp
    with_reducible rfl
  rotate_left
  · simp only [Act.put, List.setIfInBounds_toArray, List.set_cons_zero, List.set_cons_succ, i64_w, i32_w]
    rfl
  refine take_ (i := 5) (N := some 8) (v := ?_) (a' := ?_) (bm 959 13) rfl rfl (by kernel_rfl) (fun _ _ _ h => h) (Or.inl ⟨by rfl, ?_⟩) hHeld ?_ ?_
  rotate_left
  · rintro w' ⟨s0, s1, s2, s3, s4, s5⟩
    go_simp
    with_reducible rfl
  rotate_left
  · simp only [Act.put, List.setIfInBounds_toArray, List.set_cons_zero, List.set_cons_succ, i64_w, i32_w]
    rfl
  refine take_ (i := 10) (N := some 13) (v := ?_) (a' := ?_) (bm 1983 13) rfl rfl (by kernel_rfl) (fun _ _ _ h => h) (Or.inl ⟨by rfl, ?_⟩) hHeld ?_ ?_
  rotate_left
  · rintro w' ⟨s0, s1, s2, s3, s4, s5⟩
    go_simp
    with_reducible rfl
  rotate_left
  · simp only [Act.put, List.setIfInBounds_toArray, List.set_cons_zero, List.set_cons_succ, i64_w, i32_w]
    rfl
  refine one_ (i := 6) (N := some 9) (bm 2047 13) rfl rfl (by kernel_rfl) (by decide) (fun K hK => ?_)
  refine goes_ Try.func113 (by kernel_rfl) rfl #[.agg #[.int .i64 x.f0, .int .i64 x.f1, .slice A2 x.f2.length c2, .slice A3 x.f3.length c3]] (by rfl) rfl rfl (by simp only [List.map_toArray, List.map_cons, List.map_nil]; rfl) ?_
  with_reducible refine (delta_size.calls x.f0 x.f1 A2 c2 x.f2 A3 c3 x.f3 (szS x) _ (Kd.C_below (Kd.C_below HG2.out.1 HS.out.bel) HB0.out) HG2.out.2 (Kd.C_below (Kd.C_below HG3.out.1 HS.out.bel) HB0.out) HG3.out.2 HSZ.out).mono ?_
  rintro e w3 ⟨rfl, hb3⟩
  refine ⟨_, rfl, ?_⟩
  have HB3 := Aside0.mk (below_step HB0.out hb3)
  clear hb3
  refine hK.out _ _ ⟨((HB3.out.cell (World.block_lt_of_cell? w _ ((blk_cell HK.out 0).trans rfl))).trans ((blk_cell HK.out 0).trans rfl)), ((HB3.out.cell (World.block_lt_of_cell? w _ ((blk_cell HK.out 1).trans rfl))).trans ((blk_cell HK.out 1).trans rfl)), ((HB3.out.cell (World.block_lt_of_cell? w _ HX.out.1)).trans HX.out.1), ((HB3.out.cell (World.block_lt_of_cell? w _ HX.out.2.1)).trans HX.out.2.1), ((HB3.out.cell (World.block_lt_of_cell? w _ HX.out.2.2.1)).trans HX.out.2.2.1), ((HB3.out.cell (World.block_lt_of_cell? w _ HX.out.2.2.2)).trans HX.out.2.2.2)⟩ (fun hHeld => ?_)
  clear hK K
  refine norm_ (a' := ?_) ?_ ?_
  rotate_left
  · show Act.put _ (some 9) _ = _
    simp only [Act.put, List.setIfInBounds_toArray, List.set_cons_zero, List.set_cons_succ, i64_w, i32_w]
    rfl
  refine pure_ (i := 11) (N := some 14) (v := ?_) (a' := ?_) (bm 4095 13) rfl rfl (by kernel_rfl) (fun _ _ _ h => h) (Or.inl ⟨by rfl, ?_⟩) ?_ ?_
  rotate_left
  · intro w'
    go_simp
    with_reducible rfl
  rotate_left
  · simp only [Act.put, List.setIfInBounds_toArray, List.set_cons_zero, List.set_cons_succ, i64_w, i32_w]
    rfl
  refine pure_ (i := 12) (N := some 2) (v := ?_) (a' := ?_) (bm 8191 13) rfl rfl (by kernel_rfl) (fun _ _ _ h => h) (Or.inl ⟨by rfl, ?_⟩) ?_ ?_
  rotate_left
  · intro w'
    go_simp
    with_reducible rfl
  rotate_left
  · simp only [Act.put, List.setIfInBounds_toArray, List.set_cons_zero, List.set_cons_succ, i64_w, i32_w]
    rfl
  refine done_ (by kernel_rfl) ?_
  go_wp2
  first | go_ret | go_ret2
  exact ⟨rfl, HB3.out⟩
structure TkS (w0 w : World) (g gr gs : Nat) (cg cr cs : Array Value) (wr : World) : Prop where
  bg : wr.heap[g]? = some (.cells cg 138 (0, 0))
  br : wr.heap[gr]? = some (.cells cr 70 (0, 0))
  bs : wr.heap[gs]? = some (.cells cs 70 (0, 0))
  d1 : g ≠ gr
  d2 : g ≠ gs
  d3 : gr ≠ gs
  fr : ∀ k, k < w.heap.size → k ≠ g → wr.heap[k]? = w.heap[k]?
  zr : w.heap.size ≤ gr
  zs : w.heap.size ≤ gs
  sz : w.heap.size ≤ wr.heap.size
  ge : w0.heap.size ≤ g
  bel : Below w0.heap.size w0 wr
section
variable {w0 w wr w1 : World} {g gr gs : Nat} {cg cr cs cx : Array Value}
theorem TkS.below (h : TkS w0 w g gr gs cg cr cs wr) (hb : Below wr.heap.size wr w1) : TkS w0 w g gr gs cg cr cs w1 :=
  ⟨(hb.block _ (blk_lt h.bg)).trans h.bg, (hb.block _ (blk_lt h.br)).trans h.br, (hb.block _ (blk_lt h.bs)).trans h.bs, h.d1, h.d2, h.d3, fun k hk hne => (hb.block _ (Nat.lt_of_lt_of_le hk h.sz)).trans (h.fr k hk hne), h.zr, h.zs, Nat.le_trans h.sz hb.size, h.ge, below_step h.bel hb⟩
theorem TkS.drew (h : TkS w0 w g gr gs cg cr cs wr) : TkS w0 w g gr gs cg cr cs wr.drew := h.below (below_drew1 (Below.refl _ _))
theorem size_set (w : World) (p : Addr) (v : Value) : (w.setCell p v).heap.size = w.heap.size := by simp [World.setCell]
theorem TkS.setg (h : TkS w0 w g gr gs cg cr cs wr) (j : Nat) (v : Value) (e : cg.setIfInBounds j v = cx) : TkS w0 w g gr gs cx cr cs (wr.setCell ⟨g, j, none⟩ v) :=
  ⟨blk_put h.bg j v e, (Below.heap_setCell _ _ _ _ h.d1.symm).trans h.br, (Below.heap_setCell _ _ _ _ h.d2.symm).trans h.bs, h.d1, h.d2, h.d3, fun k hk hne => (Below.heap_setCell _ _ _ _ hne).trans (h.fr k hk hne), h.zr, h.zs, by rw [size_set]; exact h.sz, h.ge, below_set h.bel h.ge⟩
theorem TkS.sets (h : TkS w0 w g gr gs cg cr cs wr) (hw : w0.heap.size ≤ w.heap.size) (j : Nat) (v : Value) (e : cs.setIfInBounds j v = cx) : TkS w0 w g gr gs cg cr cx (wr.setCell ⟨gs, j, none⟩ v) :=
  ⟨(Below.heap_setCell _ _ _ _ h.d2).trans h.bg, (Below.heap_setCell _ _ _ _ h.d3).trans h.br, blk_put h.bs j v e, h.d1, h.d2, h.d3, fun k hk hne => (Below.heap_setCell _ _ _ _ (by have := h.zs; show k ≠ gs; omega)).trans (h.fr k hk hne), h.zr, h.zs, by rw [size_set]; exact h.sz, h.ge, below_set h.bel (Nat.le_trans hw h.zs)⟩
theorem TkS.setr (h : TkS w0 w g gr gs cg cr cs wr) (hw : w0.heap.size ≤ w.heap.size) (j : Nat) (v : Value) (e : cr.setIfInBounds j v = cx) : TkS w0 w g gr gs cg cx cs (wr.setCell ⟨gr, j, none⟩ v) :=
  ⟨(Below.heap_setCell _ _ _ _ h.d1).trans h.bg, blk_put h.br j v e, (Below.heap_setCell _ _ _ _ h.d3.symm).trans h.bs, h.d1, h.d2, h.d3, fun k hk hne => (Below.heap_setCell _ _ _ _ (by have := h.zr; show k ≠ gr; omega)).trans (h.fr k hk hne), h.zr, h.zs, by rw [size_set]; exact h.sz, h.ge, below_set h.bel (Nat.le_trans hw h.zr)⟩
end
theorem TkS.fr2 {w0 w wr : World} {g gr gs : Nat} {cg cr cs : Array Value} (h : TkS w0 w g gr gs cg cr cs wr) {ad p : Addr} {v : Value} (hl : ad.block < w.heap.size ∧ ad.block ≠ g) (hp : p.block = ad.block) (hc : w.cell? p = some v) : wr.cell? p = some v := by
  have := h.fr ad.block hl.1 hl.2
  rw [← hp] at this
  unfold World.cell? at hc ⊢
  rw [this]
  exact hc
def adv (x : S70) (r : List S70) (u n : Nat) : List S70 × Nat := if ((u + n : Nat) : Int) = szS x then (r, 0) else (x :: r, u + n)
def takeN (x : S70) (n : Nat) : Int := if x.f0 = 1 then x.f1 else (n : Int)
def takeE (x : S70) (u n : Nat) : List S84 := if x.f0 = 1 then (x.f3.take (u + n)).drop u else x.f3
theorem blk_typed_C {w0 : World} {ad : Addr} {x : S70} {r : List S70} (hC : Kd.C k70 w0 (some ad) (x :: r).length (x :: r)) : ad.block < w0.heap.size := by
  obtain ⟨ad', A2, c2, A3, c3, e, h0, _⟩ := first_cells hC (Below.refl _ _)
  injection e with e
  subst e
  exact World.block_lt_of_cell? w0 _ h0
set_option maxRecDepth 100000 in
set_option maxHeartbeats 4000000 in
theorem take_calls (w0 : World) (g : Nat) (x : S70) (r : List S70) (u n : Nat) (w : World) (h : RdS w0 g (x :: r) u w) (hun : ((u + n : Nat) : Int) ≤ szS x) (hsz : szS x ≤ 1099511627776) :
    Calls Try.prog 96 #[.pointer (some ⟨g, 0, none⟩), .int .i64 (n : Int)] w fun e w' => ∃ (A2 : Option Addr) (c2 : Nat) (A3 : Option Addr) (c3 : Nat), e = .returned (.agg #[.int .i64 x.f0, .int .i64 (takeN x n), .slice A2 x.f2.length c2, .slice A3 (takeE x u n).length c3]) ∧
      (Kd.C k38 w0 A2 x.f2.length x.f2 ∧ x.f2.length ≤ c2) ∧ (Kd.C k84 w0 A3 (takeE x u n).length (takeE x u n) ∧ (takeE x u n).length ≤ c3) ∧
      RdS w0 g (adv x r u n).1 (adv x r u n).2 w' ∧ (∀ k, k < w.heap.size → k ≠ g → w'.heap[k]? = w.heap[k]?) ∧ w.heap.size ≤ w'.heap.size := by
  have hu138 := Try.underlying138
  have hu70 := Try.underlying70
  have HS := Aside0.mk h
  obtain ⟨A, c, hk, hc, hC⟩ := h.ex
  obtain ⟨ad, A2, c2, A3, c3, rfl, hx0, hx1, hx2, hx3, hl2, hg2, hl3, hg3⟩ := first_cells hC h.bel
  obtain ⟨m, hm⟩ : ∃ m, m = (x :: r).length := ⟨_, rfl⟩
  have hn1 : (0 : Int) < (m : Int) := by rw [hm]; simp
  have hn2 : 0 < m := by omega
  have hc0 : w.cell? ⟨g, 0, none⟩ = some (.slice (some ad) m c) := by rw [hm]; exact (blk_cell hk 0).trans rfl
  have hlt := blk_lt hk
  have HK := Aside0.mk hk
  have HM := Aside0.mk hm
  have HCC := Aside0.mk (show m ≤ c by rw [hm]; exact hc)
  have HCL := Aside0.mk hC
  have HW0 := Aside0.mk h.bel.size
  have HX := Aside0.mk (And.intro hx0 (And.intro hx1 (And.intro hx2 hx3)))
  have HLT := Aside0.mk (show ad.block < w.heap.size ∧ ad.block ≠ g from ⟨World.block_lt_of_cell? w _ hx0, fun e => by
    have h1 := (blk_typed_C (w0 := w0) (x := x) (r := r) hC)
    have := h.ge
    omega⟩)
  have HG2 := Aside0.mk (And.intro hg2 hl2)
  have HG3 := Aside0.mk (And.intro hg3 hl3)
  have HUN := Aside0.mk hun
  have HSZB := Aside0.mk hsz
  have HSZ := Aside0.mk (show delta_size.f x.f0 x.f1 x.f2 x.f3 = some (szS x) by unfold delta_size.f szS; split <;> rfl)
  have HGE := Aside0.mk (And.intro h.ge h.bel)
  clear hk h hc hl2 hg2 hl3 hg3 hm hC hun hsz hx0 hx1 hx2 hx3 hc0
  go_enter Try.func96, Try.ntmps96
  go_upto_region 1 with (fail)
  obtain ⟨gr, hgr⟩ : ∃ q, q = w.heap.size := ⟨_, rfl⟩
  obtain ⟨w1, hw1⟩ : ∃ w', w' = w.alloc (Obj.cells #[.int .i64 0, .int .i64 0, .slice none 0 0, .slice none 0 0] 70 (0, 0)) := ⟨_, rfl⟩
  have HB1 : Aside0 (Below w.heap.size w w1) := ⟨by rw [hw1]; exact below_alloc (Below.refl _ _) _⟩
  have HR1 : Aside0 (w1.heap[gr]? = some (.cells #[.int .i64 0, .int .i64 0, .slice none 0 0, .slice none 0 0] 70 (0, 0)) ∧ w1.heap.size = w.heap.size + 1) := ⟨by rw [hw1, hgr]; exact ⟨blk_new w _, by rw [World.size_alloc]⟩⟩
  rw [← hgr, ← hw1]
  clear hw1
  have HG := Aside0.mk hgr
  clear hgr
  have hc0 : w1.cell? ⟨g, 0, none⟩ = some (.slice (some ad) m c) := (blk_cell ((HB1.out.block _ hlt).trans HK.out) 0).trans (by rw [HM.out]; rfl)
  have hx0 := (HB1.out.cell (World.block_lt_of_cell? w _ HX.out.1)).trans HX.out.1
  have hx1 := (HB1.out.cell (World.block_lt_of_cell? w _ HX.out.2.1)).trans HX.out.2.1
  have hx2 := (HB1.out.cell (World.block_lt_of_cell? w _ HX.out.2.2.1)).trans HX.out.2.2.1
  have hx3 := (HB1.out.cell (World.block_lt_of_cell? w _ HX.out.2.2.2)).trans HX.out.2.2.2
  go_upto_region 2 with (fail)
  obtain ⟨gs, hgs⟩ : ∃ q, q = w1.heap.size := ⟨_, rfl⟩
  obtain ⟨w2, hw2⟩ : ∃ w', w' = w1.alloc (Obj.cells #[.int .i64 x.f0, .int .i64 x.f1, .slice A2 x.f2.length c2, .slice A3 x.f3.length c3] 70 (0, 0)) := ⟨_, rfl⟩
  have HT0 : Aside0 (TkS w0 w g gr gs #[.slice (some ad) m c, .int .i64 (u : Int)] #[.int .i64 0, .int .i64 0, .slice none 0 0, .slice none 0 0] #[.int .i64 x.f0, .int .i64 x.f1, .slice A2 x.f2.length c2, .slice A3 x.f3.length c3] w2) := by
    have h1 := HR1.out
    have h2 := HG.out
    have h3 := HB1.out
    rw [hw2]
    refine ⟨⟨blk_alloc ((h3.block _ hlt).trans (by rw [HM.out]; exact HK.out)) _, blk_alloc h1.1 _, by rw [hgs]; exact blk_new w1 _, by omega, by omega, by omega, fun k hk hne => (below_alloc h3 _).block k hk, by omega, by omega, ?_, HGE.out.1, below_alloc (below_step HGE.out.2 h3) _⟩⟩
    rw [World.size_alloc]; omega
  rw [← hgs, ← hw2]
  clear hgs hw2 hx0 hx1 hx2 hx3 hc0 hlt HR1 HG HB1
  have q0 : w2.cell? ⟨gs, 0, none⟩ = some (.int .i64 x.f0) := (blk_cell HT0.out.bs 0).trans rfl
  obtain ⟨ta, hta⟩ : ∃ t : Bool, (x.f0 == 1) = t := ⟨_, rfl⟩
  go_upto_if 14 with (fail)
  go_cut [] (fun wx => ∃ (D3 : Option Addr) (e3 : Nat), Aside0 (TkS w0 w g gr gs #[.slice (some ad) m c, .int .i64 (u : Int)] #[.int .i64 0, .int .i64 0, .slice none 0 0, .slice none 0 0] #[.int .i64 x.f0, .int .i64 (takeN x n), .slice A2 x.f2.length c2, .slice D3 (takeE x u n).length e3] wx) ∧ Aside0 (Kd.C k84 w0 D3 (takeE x u n).length (takeE x u n) ∧ (takeE x u n).length ≤ e3))
  case first =>
    cases ta with
    | false =>
      have hne : ¬ x.f0 = 1 := by simpa using hta
      have HE := Aside0.mk (show takeE x u n = x.f3 ∧ takeN x n = (n : Int) from ⟨if_neg hne, if_neg hne⟩)
      have HT1 := Aside0.mk (HT0.out.sets HW0.out 1 (.int .i64 (n : Int)) (cx := #[.int .i64 x.f0, .int .i64 (n : Int), .slice A2 x.f2.length c2, .slice A3 x.f3.length c3]) rfl)
      have hd1 := (blk_cell HT0.out.bs 1).trans rfl
      have hf1 := blk_frozen HT0.out.bs 1
      clear hne hta q0
      go_wp2
      go_meet
      case rel => exact ⟨A3, c3, ⟨by rw [HE.out.1, HE.out.2]; exact HT1.out⟩, ⟨by rw [HE.out.1]; exact ⟨HG3.out.1, HG3.out.2⟩⟩⟩
    | true =>
      have heq : x.f0 = 1 := by simpa using hta
      have hszE : szS x = (x.f3.length : Int) := if_pos heq
      have hunl : u + n ≤ x.f3.length := by have := HUN.out; omega
      have hul : u + n ≤ 1099511627776 := by have := HUN.out; have := HSZB.out; omega
      have HE := Aside0.mk (show takeE x u n = (x.f3.take (u + n)).drop u ∧ takeN x n = x.f1 from ⟨if_pos heq, if_pos heq⟩)
      have w1' : wrap64 ((u : Int) + (n : Int)) = ((u + n : Nat) : Int) := by unfold wrap64; omega
      have w1'' : ((u + n : Nat) : Int) = (u : Int) + (n : Int) := by omega
      obtain ⟨iz, hiz, _, hsz, _⟩ := info_parts info84
      have hlenE : (takeE x u n).length = n := by rw [HE.out.1, List.length_drop, List.length_take]; omega
      have hct : ∀ W : World, (Instr.slice 63 (.slice A3 x.f3.length c3) (some (.int .i64 (u : Int))) (some (.int .i64 ((u : Int) + (n : Int)))) none).run Try.prog W = .ok (.slice (if c3 = u then A3 else A3.map (·.add (u * 3))) n (c3 - u)) W := by
        have := cut_mid (P := Try.prog) 63 84 .i64 .i64 Try.underlying63 hiz 3 hsz A3 x.f3.length c3 (u : Int) ((u : Int) + (n : Int)) (by omega) (by omega) (by omega) HG3.out.2
        rw [Int.toNat_natCast, show ((u : Int) + (n : Int)).toNat - u = n by omega] at this
        exact this
      have HCE := Aside0.mk (show Kd.C k84 w0 (if c3 = u then A3 else A3.map (·.add (u * 3))) (takeE x u n).length (takeE x u n) by rw [HE.out.1]; exact Kd.C_mid HG3.out.1 (by omega) hunl HG3.out.2)
      have HLE := Aside0.mk (show n ≤ c3 - u by have := HG3.out.2; omega)
      obtain ⟨D3, hD3⟩ : ∃ D, D = (if c3 = u then A3 else A3.map (·.add (u * 3))) := ⟨_, rfl⟩
      rw [← hD3] at hct HCE
      rw [w1''] at w1'
      have HLN := Aside0.mk hlenE
      have HD := Aside0.mk HT0.out.drew
      have HT1 := Aside0.mk (HD.out.sets HW0.out 3 (.slice D3 n (c3 - u)) (cx := #[.int .i64 x.f0, .int .i64 x.f1, .slice A2 x.f2.length c2, .slice D3 n (c3 - u)]) rfl)
      have hd3 := (blk_cell HD.out.bs 3).trans rfl
      have hf3 := blk_frozen HD.out.bs 3
      clear heq hszE hunl hul hiz hsz hD3 hta q0 w1'' hlenE
      go_upto_region 3 with (fail)
      refine start_ (n := 15) (S := fun w' => w'.cell? ⟨gs, 3, none⟩ = some (.slice A3 x.f3.length c3) ∧ w'.cell? ⟨g, 1, none⟩ = some (.int .i64 (u : Int))) (ds := [14]) #[false, false, false, false, false, false, false, false, false, false, false, false, false, false, false] (by kernel_rfl) rfl rfl ⟨((blk_cell HD.out.bs 3).trans rfl), ((blk_cell HD.out.bg 1).trans rfl)⟩ (fun hHeld => ?_)
      refine pure_ (i := 0) (N := some 15) (v := ?_) (a' := ?_) (bm 1 15) rfl rfl (by kernel_rfl) (fun _ _ _ h => h) (Or.inl ⟨by rfl, ?_⟩) ?_ ?_
      rotate_left
      · intro w'
        go_simp
        with_reducible rfl
      rotate_left
      · simp only [Act.put, List.setIfInBounds_toArray, List.set_cons_zero, List.set_cons_succ, i64_w, i32_w]
        rfl
      refine pure_ (i := 2) (N := some 17) (v := ?_) (a' := ?_) (bm 5 15) rfl rfl (by kernel_rfl) (fun _ _ _ h => h) (Or.inl ⟨by rfl, ?_⟩) ?_ ?_
      rotate_left
      · intro w'
        go_simp
        with_reducible rfl
      rotate_left
      · simp only [Act.put, List.setIfInBounds_toArray, List.set_cons_zero, List.set_cons_succ, i64_w, i32_w]
        rfl
      refine pure_ (i := 3) (N := some 18) (v := ?_) (a' := ?_) (bm 13 15) rfl rfl (by kernel_rfl) (fun _ _ _ h => h) (Or.inl ⟨by rfl, ?_⟩) ?_ ?_
      rotate_left
      · intro w'
        go_simp
        with_reducible rfl
      rotate_left
      · simp only [Act.put, List.setIfInBounds_toArray, List.set_cons_zero, List.set_cons_succ, i64_w, i32_w]
        rfl
      refine pure_ (i := 4) (N := some 19) (v := ?_) (a' := ?_) (bm 29 15) rfl rfl (by kernel_rfl) (fun _ _ _ h => h) (Or.inl ⟨by rfl, ?_⟩) ?_ ?_
      rotate_left
      · intro w'
        go_simp
        with_reducible rfl
      rotate_left
      · simp only [Act.put, List.setIfInBounds_toArray, List.set_cons_zero, List.set_cons_succ, i64_w, i32_w]
        rfl
      refine pure_ (i := 6) (N := some 21) (v := ?_) (a' := ?_) (bm 93 15) rfl rfl (by kernel_rfl) (fun _ _ _ h => h) (Or.inl ⟨by rfl, ?_⟩) ?_ ?_
      rotate_left
      · intro w'
        go_simp
        with_reducible rfl
      rotate_left
      · simp only [Act.put, List.setIfInBounds_toArray, List.set_cons_zero, List.set_cons_succ, i64_w, i32_w]
        rfl
      refine pure_ (i := 7) (N := some 22) (v := ?_) (a' := ?_) (bm 221 15) rfl rfl (by kernel_rfl) (fun _ _ _ h => h) (Or.inl ⟨by rfl, ?_⟩) ?_ ?_
      rotate_left
      · intro w'
        go_simp
        with_reducible rfl
      rotate_left
      · simp only [Act.put, List.setIfInBounds_toArray, List.set_cons_zero, List.set_cons_succ, i64_w, i32_w]
        rfl
      refine pure_ (i := 8) (N := some 23) (v := ?_) (a' := ?_) (bm 477 15) rfl rfl (by kernel_rfl) (fun _ _ _ h => h) (Or.inl ⟨by rfl, ?_⟩) ?_ ?_
      rotate_left
      · intro w'
        go_simp
        with_reducible rfl
      rotate_left
      · simp only [Act.put, List.setIfInBounds_toArray, List.set_cons_zero, List.set_cons_succ, i64_w, i32_w]
        rfl
      refine pure_ (i := 10) (N := some 25) (v := ?_) (a' := ?_) (bm 1501 15) rfl rfl (by kernel_rfl) (fun _ _ _ h => h) (Or.inl ⟨by rfl, ?_⟩) ?_ ?_
      rotate_left
      · intro w'
        go_simp
        with_reducible rfl
      rotate_left
      · simp only [Act.put, List.setIfInBounds_toArray, List.set_cons_zero, List.set_cons_succ, i64_w, i32_w]
        rfl
      refine take_ (i := 1) (N := some 16) (v := ?_) (a' := ?_) (bm 1503 15) rfl rfl (by kernel_rfl) (fun _ _ _ h => h) (Or.inl ⟨by rfl, ?_⟩) hHeld ?_ ?_
      rotate_left
      · rintro w' ⟨s0, s1⟩
        go_simp
        with_reducible rfl
      rotate_left
      · simp only [Act.put, List.setIfInBounds_toArray, List.set_cons_zero, List.set_cons_succ, i64_w, i32_w]
        rfl
      refine take_ (i := 5) (N := some 20) (v := ?_) (a' := ?_) (bm 1535 15) rfl rfl (by kernel_rfl) (fun _ _ _ h => h) (Or.inl ⟨by rfl, ?_⟩) hHeld ?_ ?_
      rotate_left
      · rintro w' ⟨s0, s1⟩
        go_simp
        with_reducible rfl
      rotate_left
      · simp only [Act.put, List.setIfInBounds_toArray, List.set_cons_zero, List.set_cons_succ, i64_w, i32_w]
        rfl
      refine take_ (i := 9) (N := some 24) (v := ?_) (a' := ?_) (bm 2047 15) rfl rfl (by kernel_rfl) (fun _ _ _ h => h) (Or.inl ⟨by rfl, ?_⟩) hHeld ?_ ?_
      rotate_left
      · rintro w' ⟨s0, s1⟩
        go_simp
        with_reducible rfl
      rotate_left
      · simp only [Act.put, List.setIfInBounds_toArray, List.set_cons_zero, List.set_cons_succ, i64_w, i32_w]
        rfl
      refine pure_ (i := 11) (N := some 26) (v := ?_) (a' := ?_) (bm 4095 15) rfl rfl (by kernel_rfl) (fun _ _ _ h => h) (Or.inl ⟨by rfl, ?_⟩) ?_ ?_
      rotate_left
      · intro w'
        go_simp
        with_reducible rfl
      rotate_left
      · simp only [Act.put, List.setIfInBounds_toArray, List.set_cons_zero, List.set_cons_succ, i64_w, i32_w]
        rfl
      refine pure_ (i := 12) (N := some 27) (v := ?_) (a' := ?_) (bm 8191 15) rfl rfl (by kernel_rfl) (fun _ _ _ h => h) (Or.inl ⟨by rfl, ?_⟩) ?_ ?_
      rotate_left
      · intro w'
        go_simp
        with_reducible rfl
      rotate_left
      · simp only [Act.put, List.setIfInBounds_toArray, List.set_cons_zero, List.set_cons_succ, i64_w, i32_w]
        rfl
      refine pure_ (i := 13) (N := some 28) (v := ?_) (a' := ?_) (bm 16383 15) rfl rfl (by kernel_rfl) (fun _ _ _ h => h) (Or.inl ⟨by rfl, ?_⟩) ?_ ?_
      rotate_left
      · intro w'
        go_simp
        with_reducible rfl
      rotate_left
      · simp only [Act.put, List.setIfInBounds_toArray, List.set_cons_zero, List.set_cons_succ, i64_w, i32_w]
        rfl
      refine last_ (i := 14) (N := none) (bm 32767 15) rfl rfl (by kernel_rfl) (by decide) (fun K hK => ?_)
      refine skip_ (w1 := ?_) (by rfl) rfl ?_ ?_
      rotate_left
      · go_simp
        rfl
      refine hK.out _ _ ?_
      clear hK K
      refine done_ (by kernel_rfl) ?_
      go_wp2
      go_meet
      case rel => exact ⟨D3, c3 - u, ⟨by rw [HLN.out, HE.out.2]; exact HT1.out⟩, ⟨HCE.out, by rw [HLN.out]; exact HLE.out⟩⟩
  case rest =>
  obtain ⟨D3, e3, HT, HCE⟩ := hcut
  clear hta q0 HT0
  have q1 : wc.cell? ⟨g, 1, none⟩ = some (.int .i64 (u : Int)) := (blk_cell HT.out.bg 1).trans rfl
  have qf := blk_frozen HT.out.bg 1
  have hul : u + n ≤ 1099511627776 := by have := HUN.out; have := HSZB.out; omega
  have w1' : wrap64 ((u : Int) + (n : Int)) = (u : Int) + (n : Int) := by unfold wrap64; omega
  have HT2 := Aside0.mk (HT.out.setg 1 (.int .i64 ((u : Int) + (n : Int))) (cx := #[.slice (some ad) m c, .int .i64 ((u : Int) + (n : Int))]) rfl)
  clear hul HT
  go_upto_region 6 with (fail)
  obtain ⟨w3, hw3⟩ : ∃ w', w' = wc.setCell ⟨g, 1, none⟩ (.int .i64 ((u : Int) + (n : Int))) := ⟨_, rfl⟩
  rw [← hw3] at HT2
  rw [← hw3]
  clear hw3 q1 qf w1'
  have HD := Aside0.mk HT2.out.drew
  clear HT2
  obtain ⟨tb, htb⟩ : ∃ t : Bool, ((u : Int) + (n : Int) == szS x) = t := ⟨_, rfl⟩
  have htb2 : ((u : Int) + (n : Int) = szS x) ↔ tb = true := by rw [← htb, beq_iff_eq]
  refine start_ (n := 12) (S := fun w' => w'.cell? ⟨g, 0, none⟩ = some (.slice (some ad) m c) ∧ w'.cell? ⟨g, 1, none⟩ = some (.int .i64 ((u : Int) + (n : Int))) ∧ w'.cell? ad = some (.int .i64 x.f0) ∧ w'.cell? ⟨ad.block, ad.off + 1, none⟩ = some (.int .i64 x.f1) ∧ w'.cell? ⟨ad.block, ad.off + 2, none⟩ = some (.slice A2 x.f2.length c2) ∧ w'.cell? ⟨ad.block, ad.off + 3, none⟩ = some (.slice A3 x.f3.length c3)) (ds := []) #[false, false, false, false, false, false, false, false, false, false, false, false] (by kernel_rfl) rfl rfl ⟨((blk_cell HD.out.bg 0).trans rfl), ((blk_cell HD.out.bg 1).trans rfl), (HD.out.fr2 HLT.out rfl HX.out.1), (HD.out.fr2 HLT.out rfl HX.out.2.1), (HD.out.fr2 HLT.out rfl HX.out.2.2.1), (HD.out.fr2 HLT.out rfl HX.out.2.2.2)⟩ (fun hHeld => ?_)
  refine pure_ (i := 0) (N := some 39) (v := ?_) (a' := ?_) (bm 1 12) rfl rfl (by kernel_rfl) (fun _ _ _ h => h) (Or.inl ⟨by rfl, ?_⟩) ?_ ?_
  rotate_left
  · intro w'
    go_simp
    with_reducible rfl
  rotate_left
  · simp only [Act.put, List.setIfInBounds_toArray, List.set_cons_zero, List.set_cons_succ, i64_w, i32_w]
    rfl
  refine pure_ (i := 1) (N := some 40) (v := ?_) (a' := ?_) (bm 3 12) rfl rfl (by kernel_rfl) (fun _ _ _ h => h) (Or.inl ⟨by rfl, ?_⟩) ?_ ?_
  rotate_left
  · intro w'
    go_simp
    with_reducible rfl
  rotate_left
  · simp only [Act.put, List.setIfInBounds_toArray, List.set_cons_zero, List.set_cons_succ, i64_w, i32_w]
    rfl
  refine pure_ (i := 2) (N := some 41) (v := ?_) (a' := ?_) (bm 7 12) rfl rfl (by kernel_rfl) (fun _ _ _ h => h) (Or.inl ⟨by rfl, ?_⟩) ?_ ?_
  rotate_left
  · intro w'
    go_simp
    with_reducible rfl
  rotate_left
  · simp only [Act.put, List.setIfInBounds_toArray, List.set_cons_zero, List.set_cons_succ, i64_w, i32_w]
    rfl
  refine pure_ (i := 4) (N := some 43) (v := ?_) (a' := ?_) (bm 23 12) rfl rfl (by kernel_rfl) (fun _ _ _ h => h) (Or.inl ⟨by rfl, ?_⟩) ?_ ?_
  rotate_left
  · intro w'
    go_simp
    with_reducible rfl
  rotate_left
  · simp only [Act.put, List.setIfInBounds_toArray, List.set_cons_zero, List.set_cons_succ, i64_w, i32_w]
    rfl
  refine pure_ (i := 5) (N := some 44) (v := ?_) (a' := ?_) (bm 55 12) rfl rfl (by kernel_rfl) (fun _ _ _ h => h) (Or.inl ⟨by rfl, ?_⟩) ?_ ?_
  rotate_left
  · intro w'
    go_simp
    with_reducible rfl
  rotate_left
  · simp only [Act.put, List.setIfInBounds_toArray, List.set_cons_zero, List.set_cons_succ, i64_w, i32_w]
    rfl
  refine pure_ (i := 6) (N := some 45) (v := ?_) (a' := ?_) (bm 119 12) rfl rfl (by kernel_rfl) (fun _ _ _ h => h) (Or.inl ⟨by rfl, ?_⟩) ?_ ?_
  rotate_left
  · intro w'
    go_simp
    with_reducible rfl
  rotate_left
  · simp only [Act.put, List.setIfInBounds_toArray, List.set_cons_zero, List.set_cons_succ, i64_w, i32_w]
    rfl
  refine take_ (i := 3) (N := some 42) (v := ?_) (a' := ?_) (bm 127 12) rfl rfl (by kernel_rfl) (fun _ _ _ h => h) (Or.inl ⟨by rfl, ?_⟩) hHeld ?_ ?_
  rotate_left
  · rintro w' ⟨s0, s1, s2, s3, s4, s5⟩
    go_simp
    with_reducible rfl
  rotate_left
  · simp only [Act.put, List.setIfInBounds_toArray, List.set_cons_zero, List.set_cons_succ, i64_w, i32_w]
    rfl
  refine take_ (i := 7) (N := some 46) (v := ?_) (a' := ?_) (bm 255 12) rfl rfl (by kernel_rfl) (fun _ _ _ h => h) (Or.inl ⟨by rfl, ?_⟩) hHeld ?_ ?_
  rotate_left
  · rintro w' ⟨s0, s1, s2, s3, s4, s5⟩
    go_simp
    with_reducible rfl
  rotate_left
  · simp only [Act.put, List.setIfInBounds_toArray, List.set_cons_zero, List.set_cons_succ, i64_w, i32_w]
    rfl
  refine pure_ (i := 8) (N := some 47) (v := ?_) (a' := ?_) (bm 511 12) rfl rfl (by kernel_rfl) (fun _ _ _ h => h) (Or.inl ⟨by rfl, ?_⟩) ?_ ?_
  rotate_left
  · intro w'
    go_simp
    with_reducible rfl
  rotate_left
  · simp only [Act.put, List.setIfInBounds_toArray, List.set_cons_zero, List.set_cons_succ, i64_w, i32_w]
    rfl
  refine take_ (i := 9) (N := some 48) (v := ?_) (a' := ?_) (bm 1023 12) rfl rfl (by kernel_rfl) (fun _ _ _ h => h) (Or.inl ⟨by rfl, ?_⟩) hHeld ?_ ?_
  rotate_left
  · rintro w' ⟨s0, s1, s2, s3, s4, s5⟩
    go_simp
    with_reducible rfl
  rotate_left
  · simp only [Act.put, List.setIfInBounds_toArray, List.set_cons_zero, List.set_cons_succ, i64_w, i32_w]
    rfl
  refine one_ (i := 10) (N := some 49) (bm 2047 12) rfl rfl (by kernel_rfl) (by decide) (fun K hK => ?_)
  refine goes_ Try.func113 (by kernel_rfl) rfl #[.agg #[.int .i64 x.f0, .int .i64 x.f1, .slice A2 x.f2.length c2, .slice A3 x.f3.length c3]] (by rfl) rfl rfl (by simp only [List.map_toArray, List.map_cons, List.map_nil]; rfl) ?_
  with_reducible refine (delta_size.calls x.f0 x.f1 A2 c2 x.f2 A3 c3 x.f3 (szS x) _ (Kd.C_below HG2.out.1 HD.out.bel) HG2.out.2 (Kd.C_below HG3.out.1 HD.out.bel) HG3.out.2 HSZ.out).mono ?_
  rintro e w9 ⟨rfl, hb9⟩
  refine ⟨_, rfl, ?_⟩
  have HT9 := Aside0.mk (HD.out.below hb9)
  clear hb9
  refine hK.out _ _ ⟨((blk_cell HT9.out.bg 0).trans rfl), ((blk_cell HT9.out.bg 1).trans rfl), (HT9.out.fr2 HLT.out rfl HX.out.1), (HT9.out.fr2 HLT.out rfl HX.out.2.1), (HT9.out.fr2 HLT.out rfl HX.out.2.2.1), (HT9.out.fr2 HLT.out rfl HX.out.2.2.2)⟩ (fun hHeld => ?_)
  clear hK K
  refine norm_ (a' := ?_) ?_ ?_
  rotate_left
  · show Act.put _ (some 49) _ = _
    simp only [Act.put, List.setIfInBounds_toArray, List.set_cons_zero, List.set_cons_succ, i64_w, i32_w]
    rfl
  refine pure_ (i := 11) (N := some 50) (v := ?_) (a' := ?_) (bm 4095 12) rfl rfl (by kernel_rfl) (fun _ _ _ h => h) (Or.inl ⟨by rfl, ?_⟩) ?_ ?_
  rotate_left
  · intro w'
    go_simp
    with_reducible rfl
  rotate_left
  · simp only [Act.put, List.setIfInBounds_toArray, List.set_cons_zero, List.set_cons_succ, i64_w, i32_w]
    rfl
  refine done_ (by kernel_rfl) ?_
  clear hHeld
  go_upto_if 50 with (fail)
  have HB9 := Aside0.mk HT9.out.bel
  go_cut [] (fun wx => ∃ (E : Option Addr) (ec : Nat), Aside0 (TkS w0 w g gr gs #[.slice E (adv x r u n).1.length ec, .int .i64 ((adv x r u n).2 : Int)] #[.int .i64 0, .int .i64 0, .slice none 0 0, .slice none 0 0] #[.int .i64 x.f0, .int .i64 (takeN x n), .slice A2 x.f2.length c2, .slice D3 (takeE x u n).length e3] wx) ∧ Aside0 (Kd.C k70 w0 E (adv x r u n).1.length (adv x r u n).1 ∧ (adv x r u n).1.length ≤ ec))
  case first =>
    cases tb with
    | false =>
      have hne : ¬ ((u + n : Nat) : Int) = szS x := fun h => by have := htb2.1 (by omega); cases this
      have HE := Aside0.mk (show adv x r u n = (x :: r, u + n) from if_neg hne)
      clear hne htb htb2
      go_wp2
      go_meet
      case rel => exact ⟨some ad, c, ⟨by rw [HE.out]; show TkS w0 w g gr gs #[.slice (some ad) (x :: r).length c, .int .i64 ((u + n : Nat) : Int)] _ _ _; rw [← HM.out, show ((u + n : Nat) : Int) = (u : Int) + (n : Int) by omega]; exact HT9.out⟩, ⟨by rw [HE.out]; exact HCL.out, by rw [HE.out]; show (x :: r).length ≤ c; rw [← HM.out]; exact HCC.out⟩⟩
    | true =>
      have heq : ((u + n : Nat) : Int) = szS x := by have := htb2.2 rfl; omega
      have HE := Aside0.mk (show adv x r u n = (r, 0) from if_pos heq)
      obtain ⟨iz, hiz, _, hsz, _⟩ := info_parts info70
      have hml : m = r.length + 1 := by rw [HM.out]; simp
      obtain ⟨Aa, hAa⟩ : ∃ A, A = some ad := ⟨_, rfl⟩
      have hct : ∀ W : World, (Instr.slice 64 (.slice Aa m c) (some (.int .i64 1)) none none).run Try.prog W = .ok (.slice (if c = 1 then Aa else Aa.map (·.add (1 * 4))) (m - 1) (c - 1)) W := by
        have := cut_from (P := Try.prog) 64 70 .i64 Try.underlying64 hiz 4 hsz Aa m c 1 (by omega) (by omega)
        exact this
      have HCR := Aside0.mk (show Kd.C k70 w0 (if c = 1 then Aa else Aa.map (·.add (1 * 4))) r.length r ∧ r.length ≤ c - 1 from by
        rw [hAa]
        have h1 := HCC.out
        have h2 := Kd.C_drop (m := 1) HCL.out (by simp) (c := c) (by rw [← HM.out]; exact h1)
        rw [show (x :: r).drop 1 = r from rfl] at h2
        exact ⟨h2, by omega⟩)
      obtain ⟨E3, hE3⟩ : ∃ D, D = (if c = 1 then Aa else Aa.map (·.add (1 * 4))) := ⟨_, rfl⟩
      have hm1 : m - 1 = r.length := by omega
      rw [← hE3, hm1] at hct
      rw [← hE3] at HCR
      replace HT9 : Aside0 (TkS w0 w g gr gs #[.slice Aa m c, .int .i64 ((u : Int) + (n : Int))] #[.int .i64 0, .int .i64 0, .slice none 0 0, .slice none 0 0] #[.int .i64 x.f0, .int .i64 (takeN x n), .slice A2 x.f2.length c2, .slice D3 (takeE x u n).length e3] w9) := ⟨by rw [hAa]; exact HT9.out⟩
      have q0 : w9.cell? ⟨g, 0, none⟩ = some (.slice Aa m c) := (blk_cell HT9.out.bg 0).trans rfl
      have qf0 := blk_frozen HT9.out.bg 0
      have HT10 := Aside0.mk (HT9.out.setg 0 (.slice E3 r.length (c - 1)) (cx := #[.slice E3 r.length (c - 1), .int .i64 ((u : Int) + (n : Int))]) rfl)
      have q1 := (blk_cell HT10.out.bg 1).trans rfl
      have qf1 := blk_frozen HT10.out.bg 1
      have HT11 := Aside0.mk (HT10.out.setg 1 (.int .i64 0) (cx := #[.slice E3 r.length (c - 1), .int .i64 0]) rfl)
      have p6 : ((1 : Int) ≤ (m : Int)) = True := eq_true (by omega)
      have p7 : (1 ≤ m) = True := eq_true (by omega)
      clear heq hiz hsz hml hE3 hm1 htb htb2 hAa
      go_wp2
      go_meet
      case rel => exact ⟨E3, c - 1, ⟨by rw [HE.out]; exact HT11.out⟩, ⟨by rw [HE.out]; exact HCR.out.1, by rw [HE.out]; exact HCR.out.2⟩⟩
  case rest =>
  obtain ⟨E, ec, HT, HCR⟩ := hcut
  clear htb htb2
  have a0 : wc.cell? ⟨gs, 0, none⟩ = some (.int .i64 x.f0) := (blk_cell HT.out.bs 0).trans rfl
  have a1 : wc.cell? ⟨gs, 1, none⟩ = some (.int .i64 (takeN x n)) := (blk_cell HT.out.bs 1).trans rfl
  have a2 : wc.cell? ⟨gs, 2, none⟩ = some (.slice A2 x.f2.length c2) := (blk_cell HT.out.bs 2).trans rfl
  have a3 : wc.cell? ⟨gs, 3, none⟩ = some (.slice D3 (takeE x u n).length e3) := (blk_cell HT.out.bs 3).trans rfl
  have b0 := (blk_cell HT.out.br 0).trans rfl
  have b1 := (blk_cell HT.out.br 1).trans rfl
  have b2 := (blk_cell HT.out.br 2).trans rfl
  have b3 := (blk_cell HT.out.br 3).trans rfl
  have f0 := blk_frozen HT.out.br 0
  have f1 := blk_frozen HT.out.br 1
  have f2 := blk_frozen HT.out.br 2
  have f3 := blk_frozen HT.out.br 3
  have HT1 := Aside0.mk (HT.out.setr HW0.out 0 (.int .i64 x.f0) (cx := #[.int .i64 x.f0, .int .i64 0, .slice none 0 0, .slice none 0 0]) rfl)
  have HT2 := Aside0.mk (HT1.out.setr HW0.out 1 (.int .i64 (takeN x n)) (cx := #[.int .i64 x.f0, .int .i64 (takeN x n), .slice none 0 0, .slice none 0 0]) rfl)
  have HT3 := Aside0.mk (HT2.out.setr HW0.out 2 (.slice A2 x.f2.length c2) (cx := #[.int .i64 x.f0, .int .i64 (takeN x n), .slice A2 x.f2.length c2, .slice none 0 0]) rfl)
  have HT4 := Aside0.mk (HT3.out.setr HW0.out 3 (.slice D3 (takeE x u n).length e3) (cx := #[.int .i64 x.f0, .int .i64 (takeN x n), .slice A2 x.f2.length c2, .slice D3 (takeE x u n).length e3]) rfl)
  clear HT1 HT2 HT3
  go_wp2
  (try simp only [Exit.inBlock, Exit.then])
  refine bodyPost_ret (results_single (by rfl) (.cell gr 70 #[.int .i64 x.f0, .int .i64 (takeN x n), .slice A2 x.f2.length c2, .slice D3 (takeE x u n).length e3] (0, 0) _ rfl HT4.out.br hu70 rfl (by kernel_rfl) .nil)) rfl ?_
  exact ⟨A2, c2, D3, e3, rfl, HG2.out, HCE.out, ⟨HT4.out.ge, HT4.out.bel, E, ec, HT4.out.bg, HCR.out.2, HCR.out.1⟩, HT4.out.fr, HT4.out.sz⟩
theorem WrS.kept {ok : Nat → Prop} {w0 wI w w1 : World} {g a : Nat} {vI uI v u : Value} {s : WD} (h : WrS ok w0 wI g vI uI s v u w) (hfr : ∀ k, k < w.heap.size → k ≠ a → w1.heap[k]? = w.heap[k]?) (hB : Below w0.heap.size w0 w1) (hok : ∀ k, ok k → k ≠ a) (hga : g ≠ a) : WrS ok w0 w1 g v u s v u w1 :=
  ⟨h.ge, (hfr g (blk_lt h.blk) hga).trans h.blk, Kd.N_step h.row (fun k hk hlt => hfr k hlt (hok k hk.1.1)), Kd.N_step h.radd (fun k hk hlt => hfr k hlt (hok k hk.1.1)), hB, Moves2.refl _ _ _ _⟩
theorem WrS.setcut {ok : Nat → Prop} {w0 wI w : World} {g : Nat} {vI uI v u : Value} {s : WD} (h : WrS ok w0 wI g vI uI s v u w) (c : Int) : WrS ok w0 wI g vI uI ⟨s.out, s.add, c⟩ v u (w.setCell ⟨g, 2, none⟩ (.int .i64 c)) :=
  ⟨h.ge, blk_put h.blk 2 _ rfl, Kd.N_far h.row (fun _ hk => hk.1.2) _, Kd.N_far h.radd (fun _ hk => hk.1.2) _, below_set h.bel h.ge, mv_set h.mv 2 _⟩
theorem WrS.weaken {ok ok' : Nat → Prop} {w0 wI w : World} {g : Nat} {vI uI v u : Value} {s : WD} (h : WrS ok w0 wI g vI uI s v u w) (ho : ∀ k, ok k → ok' k) : WrS ok' w0 wI g vI uI s v u w :=
  ⟨h.ge, h.blk, Kd.N_mono h.row (fun k hk => ⟨⟨ho k hk.1.1, hk.1.2⟩, hk.2⟩), Kd.N_mono h.radd (fun k hk => ⟨⟨ho k hk.1.1, hk.1.2⟩, hk.2⟩), h.bel, h.mv⟩
section
variable {w0 wr w1 : World} {gw gp gq u v u' v' : Nat} {P Q P' Q' : List S70} {s s' : WD}
theorem ne_types {w : World} {a b t t' : Nat} {cs cs' : Array Value} {f f' : Nat × Nat} (h : w.heap[a]? = some (.cells cs t f)) (h' : w.heap[b]? = some (.cells cs' t' f')) (ht : t ≠ t') : a ≠ b := by
  rintro rfl
  rw [h] at h'
  injection h' with h'
  injection h' with _ h'
  exact ht h'
end
def RG (x : S70) (u : Nat) : Prop := 0 ≤ x.f0 ∧ (u : Int) ≤ szS x ∧ szS x ≤ 1099511627776
instance (x : S70) (u : Nat) : Decidable (RG x u) := by unfold RG; infer_instance
def leftN (x : S70) (u : Nat) : Nat := (szS x - (u : Int)).toNat
theorem left_ok {x : S70} {u : Nat} (h : RG x u) : wrap64 (szS x - (u : Int)) = ((leftN x u : Nat) : Int) ∧ ((u + leftN x u : Nat) : Int) = szS x ∧ leftN x u ≤ 1099511627776 := by
  unfold RG at h
  unfold leftN wrap64
  omega
end Go.Proofs.Ytdgemabmmomebaa.PDelta
end
section
namespace Go.Proofs.Ytdgemabmmomebaa.PDelta
open Go.RowKit Go.Proofs.YtdgemabmmomebaaW.PrintWords Go.Proofs.YtdgemabmmomebaaW.PrintLast Go.Proofs.YtdgemabmmomebaaW.PrintMore
attribute [local go_sem] min_two
end Go.Proofs.Ytdgemabmmomebaa.PDelta
end
section
namespace Go.Proofs.Ytdgemabmmomebaa.PDelta
open Go.RowKit Go.Proofs.YtdgemabmmomebaaW.PrintWords Go.Proofs.YtdgemabmmomebaaW.PrintLast Go.Proofs.YtdgemabmmomebaaW.PrintMore
section
variable {U V J : List Un}
end
def RU (P : List S70) (u : Nat) : List Un := (units P).drop u
structure RP (B : Nat) (P : List S70) (u : Nat) : Prop where
  ok : ∀ x ∈ P, StepOK x ∧ SAt B x ∧ (us x).length ≤ 1073741824
  lt : ∀ x p, P = x :: p → u < (us x).length
theorem sz_us {x : S70} (h : StepOK x) : szS x = ((us x).length : Int) := by
  unfold szS
  rcases h with h | h | h
  · rw [if_neg (by omega), us_keep h.1, List.length_replicate]; omega
  · rw [if_pos h.1, us_add h.1, List.length_map]
  · rw [if_neg (by omega), us_cut h.1, List.length_replicate]; omega
theorem us_pos {x : S70} (h : StepOK x) : 0 < (us x).length := (us_len h).1
theorem RP.rest {B u : Nat} {x : S70} {p : List S70} (h : RP B (x :: p) u) : RP B p 0 :=
  ⟨fun y hy => h.ok y (List.mem_cons_of_mem _ hy), fun y q e => us_pos (h.ok y (by rw [e]; exact List.mem_cons_of_mem _ List.mem_cons_self)).1⟩
theorem RP.rg {B u : Nat} {x : S70} {p : List S70} (h : RP B (x :: p) u) : RG x u ∧ leftN x u = (us x).length - u ∧ 1 ≤ (us x).length - u := by
  have h1 := (h.ok x List.mem_cons_self)
  have h2 := h.lt x p rfl
  have h3 := sz_us h1.1
  have h4 := stepok_kind h1.1
  unfold RG leftN
  omega
theorem RU_cons {x : S70} {p : List S70} {u : Nat} (h : u ≤ (us x).length) : RU (x :: p) u = (us x).drop u ++ units p := by
  unfold RU
  rw [units_cons, List.drop_append_of_le_length h]
theorem RU_zero (p : List S70) : RU p 0 = units p := rfl
theorem adv_spec {B u n : Nat} {x : S70} {p : List S70} (h : RP B (x :: p) u) (hn : u + n ≤ (us x).length) :
    RP B (adv x p u n).1 (adv x p u n).2 ∧ RU (x :: p) u = ((us x).drop u).take n ++ RU (adv x p u n).1 (adv x p u n).2 := by
  have h3 := sz_us (h.ok x List.mem_cons_self).1
  rw [RU_cons (by omega)]
  unfold adv
  by_cases e : ((u + n : Nat) : Int) = szS x
  · rw [if_pos e]
    have hl : ((us x).drop u).length = n := by rw [List.length_drop]; omega
    exact ⟨h.rest, by rw [List.take_of_length_le (by omega)]; rfl⟩
  · rw [if_neg e]
    refine ⟨⟨h.ok, fun y q e' => ?_⟩, ?_⟩
    · injection e' with e1 e2
      subst e1
      show u + n < _
      omega
    · show _ = _ ++ RU (x :: p) (u + n)
      rw [RU_cons hn, ← List.append_assoc]
      congr 1
      rw [← List.drop_drop, List.take_append_drop]
theorem us_seg0 {x : S70} (h : x.f0 = 0) {u n : Nat} (hn : u + n ≤ (us x).length) : ((us x).drop u).take n = List.replicate n (.keep x.f2) := by
  rw [us_keep h] at hn ⊢
  rw [List.length_replicate] at hn
  rw [List.drop_replicate, List.take_replicate]
  congr 1
  omega
theorem us_seg2 {x : S70} (h : x.f0 = 2) {u n : Nat} (hn : u + n ≤ (us x).length) : ((us x).drop u).take n = List.replicate n .cut := by
  rw [us_cut h] at hn ⊢
  rw [List.length_replicate] at hn
  rw [List.drop_replicate, List.take_replicate]
  congr 1
  omega
theorem us_seg1 {x : S70} (h : x.f0 = 1) {u n : Nat} (hn : u + n ≤ (us x).length) : ((us x).drop u).take n = (takeE x u n).map .add ∧ (takeE x u n).length = n ∧ ∀ y ∈ takeE x u n, y ∈ x.f3 := by
  rw [us_add h] at hn ⊢
  rw [List.length_map] at hn
  have e : takeE x u n = (x.f3.drop u).take n := by
    unfold takeE
    rw [if_pos h, List.drop_take]
    congr 1
    omega
  refine ⟨by rw [e, ← List.map_drop, ← List.map_take], by rw [e, List.length_take, List.length_drop]; omega, fun y hy => ?_⟩
  rw [e] at hy
  exact List.mem_of_mem_drop (List.mem_of_mem_take hy)
theorem wrapc {s : WD} {A : Nat} (n : Nat) (h : WF A s) (hl : (wu s).length + n ≤ 1073741824) : wrap64 (s.cut + (n : Int)) = s.cut + (n : Int) := by
  have h1 := wu_len s
  have h2 := h.cut
  exact w64 (by omega) (by omega)
theorem ev_some {α : Type} (x : α) : Ev (fun _ => some x) x := ⟨0, fun _ _ => rfl⟩
theorem nold_one {x : S70} (h : StepOK x) (h2 : x.f0 ≠ 1) {u : Nat} (hu : u < (us x).length) : 1 ≤ nold ((us x).drop u) := by
  have kx := stepok_kind h
  by_cases h0 : x.f0 = 0
  · rw [us_keep h0] at hu ⊢
    rw [List.length_replicate] at hu
    rw [List.drop_replicate, nold_keeps]
    omega
  · have h1 : x.f0 = 2 := by omega
    rw [us_cut h1] at hu ⊢
    rw [List.length_replicate] at hu
    rw [List.drop_replicate, nold_cuts]
    omega
theorem WrS.off {ok : Nat → Prop} {w0 wI w : World} {g k : Nat} {vI uI v u : Value} {s : WD} (h : WrS ok w0 wI g vI uI s v u w) (hk : w.heap.size ≤ k) : Off g v u k := by
  refine ⟨⟨fun e => ?_, fun e => ?_⟩, fun e => ?_⟩
  · have := blk_lt h.blk; omega
  · have := Kd.N_lt h.row k e.symm; omega
  · have := Kd.N_lt h.radd k e.symm; omega
theorem WrS.here {ok : Nat → Prop} {w0 wI w : World} {g : Nat} {vI uI v u : Value} {s : WD} (h : WrS ok w0 wI g vI uI s v u w) : WrS ok w0 w g v u s v u w := WrD.here h
theorem WrS.aside {ok ok' : Nat → Prop} {w0 wI w w1 : World} {g : Nat} {vI uI v u : Value} {s : WD} (h : WrS ok w0 wI g vI uI s v u w) (hm : ∀ k, ok k → k < w.heap.size → ok' k ∧ w1.heap[k]? = w.heap[k]?) (hg : w1.heap[g]? = w.heap[g]?) (hB : Below w0.heap.size w0 w1) : WrS ok' w0 w1 g v u s v u w1 :=
  ⟨h.ge, hg.trans h.blk, Kd.N_mono (Kd.N_step (Kd.N_bound h.row) (fun k hk _ => (hm k hk.1.1.1 hk.2).2)) (fun k hk => ⟨⟨(hm k hk.1.1.1 hk.2).1, hk.1.1.2⟩, hk.1.2⟩),
    Kd.N_mono (Kd.N_step (Kd.N_bound h.radd) (fun k hk _ => (hm k hk.1.1.1 hk.2).2)) (fun k hk => ⟨⟨(hm k hk.1.1.1 hk.2).1, hk.1.1.2⟩, hk.1.2⟩), hB, Moves2.refl _ _ _ _⟩
def OkP (gp gq g : Nat) (a b : Value) (k : Nat) : Prop := (k ≠ gp ∧ k ≠ gq) ∧ Off g a b k
structure PaS (w0 : World) (g1 g2 gp gq : Nat) (P : List S70) (u : Nat) (Q : List S70) (v : Nat) (s1 s2 : WD) (wr : World) : Prop where
  ws : ∃ a1 b1 a2 b2, WrS (OkP gp gq g2 a2 b2) w0 wr g1 a1 b1 s1 a1 b1 wr ∧ WrS (OkP gp gq g1 a1 b1) w0 wr g2 a2 b2 s2 a2 b2 wr
  rp : RdS w0 gp P u wr
  rq : RdS w0 gq Q v wr
  pq : gp ≠ gq
  ne : g1 ≠ g2
section
variable {w0 wr w1 : World} {g1 g2 gp gq u v u' v' : Nat} {P Q P' Q' : List S70} {s1 s2 s1' : WD} {a1 b1 a2 b2 a1' b1' : Value}
theorem PaS.swap (h : PaS w0 g1 g2 gp gq P u Q v s1 s2 wr) : PaS w0 g2 g1 gp gq P u Q v s2 s1 wr := by
  obtain ⟨a1, b1, a2, b2, h1, h2⟩ := h.ws
  exact ⟨⟨a2, b2, a1, b1, h2, h1⟩, h.rp, h.rq, h.pq, h.ne.symm⟩
theorem PaS.bel (h : PaS w0 g1 g2 gp gq P u Q v s1 s2 wr) : Below w0.heap.size w0 wr := h.rp.bel
theorem PaS.p1 (h : PaS w0 g1 g2 gp gq P u Q v s1 s2 wr) : g1 ≠ gp ∧ g1 ≠ gq := by
  obtain ⟨a1, b1, a2, b2, h1, h2⟩ := h.ws
  obtain ⟨cs, hk⟩ := h.rp.typed
  obtain ⟨cs2, hk2⟩ := h.rq.typed
  exact ⟨ne_types h1.blk hk (by decide), ne_types h1.blk hk2 (by decide)⟩
theorem PaS.takep (h : PaS w0 g1 g2 gp gq P u Q v s1 s2 wr) (hR : RdS w0 gp P' u' w1) (hfr : ∀ k, k < wr.heap.size → k ≠ gp → w1.heap[k]? = wr.heap[k]?) : PaS w0 g1 g2 gp gq P' u' Q v s1 s2 w1 := by
  have hp1 := h.p1
  have hp2 := h.swap.p1
  obtain ⟨a1, b1, a2, b2, h1, h2⟩ := h.ws
  obtain ⟨cs, hk⟩ := h.rq.typed
  exact ⟨⟨a1, b1, a2, b2, h1.kept hfr hR.bel (fun k hk => hk.1.1) hp1.1, h2.kept hfr hR.bel (fun k hk => hk.1.1) hp2.1⟩, hR, h.rq.frame (hfr _ (blk_lt hk) h.pq.symm) hR.bel, h.pq, h.ne⟩
theorem PaS.takeq (h : PaS w0 g1 g2 gp gq P u Q v s1 s2 wr) (hR : RdS w0 gq Q' v' w1) (hfr : ∀ k, k < wr.heap.size → k ≠ gq → w1.heap[k]? = wr.heap[k]?) : PaS w0 g1 g2 gp gq P u Q' v' s1 s2 w1 := by
  have hp1 := h.p1
  have hp2 := h.swap.p1
  obtain ⟨a1, b1, a2, b2, h1, h2⟩ := h.ws
  obtain ⟨cs, hk⟩ := h.rp.typed
  exact ⟨⟨a1, b1, a2, b2, h1.kept hfr hR.bel (fun k hk => hk.1.2) hp1.2, h2.kept hfr hR.bel (fun k hk => hk.1.2) hp2.2⟩, h.rp.frame (hfr _ (blk_lt hk) h.pq) hR.bel, hR, h.pq, h.ne⟩
theorem PaS.below (h : PaS w0 g1 g2 gp gq P u Q v s1 s2 wr) (hb : Below wr.heap.size wr w1) : PaS w0 g1 g2 gp gq P u Q v s1 s2 w1 := by
  obtain ⟨a1, b1, a2, b2, h1, h2⟩ := h.ws
  exact ⟨⟨a1, b1, a2, b2, h1.fwd hb, h2.fwd hb⟩, h.rp.below hb, h.rq.below hb, h.pq, h.ne⟩
theorem other_kept (h1 : WrS (OkP gp gq g2 a2 b2) w0 wr g1 a1 b1 s1 a1 b1 wr) (h2 : WrS (OkP gp gq g1 a1 b1) w0 wr g2 a2 b2 s2 a2 b2 wr) (hne : g1 ≠ g2) (mv : Moves2 wr w1 g1 a1 b1 a1' b1') (hB : Below w0.heap.size w0 w1) : WrS (OkP gp gq g1 a1' b1') w0 w1 g2 a2 b2 s2 a2 b2 w1 :=
  h2.aside (fun k hk hlt => by
    obtain ⟨h3, h4⟩ := off_keep mv hk.2 hlt
    exact ⟨⟨hk.1, h3⟩, h4⟩) (mv.frame g2 (blk_lt h2.blk) hne.symm (Kd.N_ne h1.row h2.blk (by decide)) (Kd.N_ne h1.radd h2.blk (by decide))) hB
theorem PaS.wrote (h : PaS w0 g1 g2 gp gq P u Q v s1 s2 wr) (h1 : WrS (OkP gp gq g2 a2 b2) w0 wr g1 a1 b1 s1 a1 b1 wr) (h2 : WrS (OkP gp gq g1 a1 b1) w0 wr g2 a2 b2 s2 a2 b2 wr) (hw : WrS (OkP gp gq g2 a2 b2) w0 wr g1 a1 b1 s1' a1' b1' w1) : PaS w0 g1 g2 gp gq P u Q v s1' s2 w1 := by
  obtain ⟨cs, hk⟩ := h.rp.typed
  obtain ⟨cs2, hk2⟩ := h.rq.typed
  have hfp := hw.mv.frame gp (blk_lt hk) h.p1.1.symm (Kd.N_ne h1.row hk (by decide)) (Kd.N_ne h1.radd hk (by decide))
  have hfq := hw.mv.frame gq (blk_lt hk2) h.p1.2.symm (Kd.N_ne h1.row hk2 (by decide)) (Kd.N_ne h1.radd hk2 (by decide))
  exact ⟨⟨a1', b1', a2, b2, WrD.here hw, other_kept h1 h2 h.ne hw.mv hw.bel⟩, h.rp.frame hfp hw.bel, h.rq.frame hfq hw.bel, h.pq, h.ne⟩
theorem PaS.setcut (h : PaS w0 g1 g2 gp gq P u Q v s1 s2 wr) (c : Int) : PaS w0 g1 g2 gp gq P u Q v ⟨s1.out, s1.add, c⟩ s2 (wr.setCell ⟨g1, 2, none⟩ (.int .i64 c)) := by
  obtain ⟨a1, b1, a2, b2, h1, h2⟩ := h.ws
  exact h.wrote h1 h2 (h1.setcut c)
theorem PaS.hok (h : PaS w0 g1 g2 gp gq P u Q v s1 s2 wr) (h2 : WrS (OkP gp gq g1 a1 b1) w0 wr g2 a2 b2 s2 a2 b2 wr) : ∀ k, wr.heap.size ≤ k → OkP gp gq g2 a2 b2 k := by
  obtain ⟨cs, hk⟩ := h.rp.typed
  obtain ⟨cs2, hk2⟩ := h.rq.typed
  intro k hk'
  have := blk_lt hk
  have := blk_lt hk2
  exact ⟨⟨by omega, by omega⟩, h2.off hk'⟩
theorem PaS.cutc (h : PaS w0 g1 g2 gp gq P u Q v s1 s2 wr) : wr.cell? ⟨g1, 2, none⟩ = some (.int .i64 s1.cut) ∧ wr.frozen? ⟨g1, 2, none⟩ = false := by
  obtain ⟨a1, b1, a2, b2, h1, h2⟩ := h.ws
  exact ⟨(blk_cell h1.blk 2).trans rfl, blk_frozen h1.blk 2⟩
end
def pairS (k : Nat) (s1 s2 : WD) (x y : S70) (n : Nat) : Option (WD × WD) :=
  if x.f0 = 0 ∧ y.f0 = 0 then (attr_Without.f x.f2 y.f2).bind fun t => (keepF k s1 (n : Int) t).bind fun s1' => (keepF k s2 (n : Int) y.f2).bind fun s2' => some (s1', s2')
  else if x.f0 = 0 then some (s1, ⟨s2.out, s2.add, wrap64 (s2.cut + (n : Int))⟩)
  else if y.f0 = 0 then some (⟨s1.out, s1.add, wrap64 (s1.cut + (n : Int))⟩, s2) else some (s1, s2)
def addS (k : Nat) (s1 s2 : WD) (l : List S84) : Option (WD × WD) := (elemsF k s1 l).bind fun s1' => (keepF k s2 (l.length : Int) []).bind fun s2' => some (s1', s2')
def addQ (k : Nat) (s1 s2 : WD) (l : List S84) : Option (WD × WD) := (keepF k s1 (l.length : Int) []).bind fun s1' => (elemsF k s2 l).bind fun s2' => some (s1', s2')
def pairF (k : Nat) : Nat → List S70 → Nat → List S70 → Nat → WD → WD → Option ((List S70 × Int) × (List S70 × Int))
  | 0, _, _, _, _, _, _ => none
  | m + 1, [], _, [], _, s1, s2 => (doneD k s1).bind fun r1 => (doneD k s2).bind fun r2 => some (r1, r2)
  | m + 1, x :: p, u, Q, v, s1, s2 => if ¬ RG x u then none else if x.f0 = 1 then (addS k s1 s2 (takeE x u (leftN x u))).bind fun t => pairF k m p 0 Q v t.1 t.2 else
    match Q with
    | [] => none
    | y :: q => if ¬ RG y v then none else if y.f0 = 1 then (addQ k s1 s2 (takeE y v (leftN y v))).bind fun t => pairF k m (x :: p) u q 0 t.1 t.2 else
      (pairS k s1 s2 x y (min (leftN x u) (leftN y v))).bind fun t => pairF k m (adv x p u (min (leftN x u) (leftN y v))).1 (adv x p u (min (leftN x u) (leftN y v))).2 (adv y q v (min (leftN x u) (leftN y v))).1 (adv y q v (min (leftN x u) (leftN y v))).2 t.1 t.2
  | m + 1, [], u, y :: q, v, s1, s2 => if ¬ RG y v then none else if y.f0 = 1 then (addQ k s1 s2 (takeE y v (leftN y v))).bind fun t => pairF k m [] u q 0 t.1 t.2 else none
def pairQ (k m : Nat) (x : S70) (p : List S70) (u v : Nat) (s1 s2 : WD) : List S70 → Option ((List S70 × Int) × (List S70 × Int))
  | [] => none
  | y :: q => if ¬ RG y v then none else if y.f0 = 1 then (addQ k s1 s2 (takeE y v (leftN y v))).bind fun t => pairF k m (x :: p) u q 0 t.1 t.2 else
      (pairS k s1 s2 x y (min (leftN x u) (leftN y v))).bind fun t => pairF k m (adv x p u (min (leftN x u) (leftN y v))).1 (adv x p u (min (leftN x u) (leftN y v))).2 (adv y q v (min (leftN x u) (leftN y v))).1 (adv y q v (min (leftN x u) (leftN y v))).2 t.1 t.2
theorem pairF_bad {k m u v : Nat} {x : S70} {p Q : List S70} {s1 s2 : WD} (h : ¬ RG x u) : pairF k (m + 1) (x :: p) u Q v s1 s2 = none := by
  cases Q <;> simp only [pairF] <;> rw [if_pos h]
theorem pairF_cons {k m u v : Nat} {x : S70} {p Q : List S70} {s1 s2 : WD} (h : RG x u) : pairF k (m + 1) (x :: p) u Q v s1 s2 = if x.f0 = 1 then (addS k s1 s2 (takeE x u (leftN x u))).bind (fun t => pairF k m p 0 Q v t.1 t.2) else pairQ k m x p u v s1 s2 Q := by
  cases Q <;> simp only [pairF] <;> rw [if_neg (not_not_intro h)] <;> rfl
inductive Pn : List Un → List Un → List Un → List Un → Prop
  | nil : Pn [] [] [] []
  | addp {U V A B : List Un} (y : S84) : Pn U V A B → Pn (.add y :: U) V (.add y :: A) (.keep [] :: B)
  | addq {U V A B : List Un} (y : S84) : Pn U V A B → Pn U (.add y :: V) (.keep [] :: A) (.add y :: B)
  | kk {U V A B : List Un} (t t' : List S38) : Pn U V A B → Pn (.keep t :: U) (.keep t' :: V) (.keep (mrg withoutE t t') :: A) (.keep t' :: B)
  | kc {U V A B : List Un} (t : List S38) : Pn U V A B → Pn (.keep t :: U) (.cut :: V) A (.cut :: B)
  | ck {U V A B : List Un} (t' : List S38) : Pn U V A B → Pn (.cut :: U) (.keep t' :: V) (.cut :: A) B
  | cc {U V A B : List Un} : Pn U V A B → Pn (.cut :: U) (.cut :: V) A B
theorem app_nil {x : S84} (hx : VA false x.f2) : app [] x = x := by
  unfold app
  rw [show mrg rawE x.f2 [] = x.f2 from look_ext (va_raw hx (va_nil true)).2 hx.2 (fun n => by rw [look_raw hx (va_nil true)]; rfl)]
theorem app_without {t t' : List S38} {x : S84} (hx : VA false x.f2) (ht : VA true t) (ht' : VA true t') : app t' (app t x) = app (mrg withoutE t t') (app t' x) := by
  unfold app
  simp only
  rw [show mrg rawE (mrg rawE x.f2 t) t' = mrg rawE (mrg rawE x.f2 t') (mrg withoutE t t') from
    look_ext (va_raw (va_raw hx ht) ht').2 (va_raw (va_raw hx ht') (va_without ht ht')).2 (fun n => by rw [look_raw (va_raw hx ht) ht', look_raw (va_raw hx ht') (va_without ht ht'), look_raw hx ht, look_raw hx ht', look_without ht ht', fr_one])]
def tagP (c : List S38) (x : S84) : Prop := x.f2 = c ∧ 65 ≤ x.f0 ∧ x.f0 ≤ 90
noncomputable instance (c : List S38) (x : S84) : Decidable (tagP c x) := Classical.propDecidable _
def strip (x : S84) : S84 := ⟨x.f0, 0, []⟩
noncomputable def tag (c : List S38) : List S84 → List S84
  | [] => []
  | x :: l => if tagP c x then strip x :: tag c l else tag c l
def adds : List Un → List S84
  | [] => []
  | .add x :: u => x :: adds u
  | .keep _ :: u => adds u
  | .cut :: u => adds u
theorem adds_run : ∀ u : List Un, (run [] u).1 = adds u
  | [] => rfl
  | .add x :: u => by rw [run, adds, ← adds_run u]
  | .keep t :: u => by rw [run, adds, ← adds_run u]
  | .cut :: u => by rw [run, adds, ← adds_run u]
theorem adds_E {a b : List Un} (h : E a b) : adds a = adds b := by rw [← adds_run, ← adds_run, h.run]
theorem adds_app : ∀ a b : List Un, adds (a ++ b) = adds a ++ adds b
  | [], b => rfl
  | .add x :: u, b => by rw [List.cons_append, adds, adds, adds_app u b]; rfl
  | .keep t :: u, b => by rw [List.cons_append, adds, adds, adds_app u b]
  | .cut :: u, b => by rw [List.cons_append, adds, adds, adds_app u b]
theorem adds_adds : ∀ l : List S84, adds (l.map .add) = l
  | [] => rfl
  | x :: l => by rw [List.map_cons, adds, adds_adds l]
theorem adds_keeps (t : List S38) : ∀ n, adds (List.replicate n (.keep t)) = []
  | 0 => rfl
  | n + 1 => by rw [List.replicate_succ, adds, adds_keeps t n]
theorem adds_cuts : ∀ n, adds (List.replicate n .cut) = []
  | 0 => rfl
  | n + 1 => by rw [List.replicate_succ, adds, adds_cuts n]
def Low (x : S84) : Prop := ¬ (65 ≤ x.f0 ∧ x.f0 ≤ 90)
structure Meets (c1 c2 : List S38) (f : List S84) (U V A B : List Un) : Prop where
  same : (run (run f U).1 B).1 = (run (run f V).1 A).1
  one : tag c1 (run (run f U).1 B).1 = (adds U).map strip
  two : tag c2 (run (run f U).1 B).1 = (adds V).map strip
theorem Pn.meets {c1 c2 : List S38} (hc : c1 ≠ c2) {U V A B : List Un} (h : Pn U V A B) : ∀ f : List S84, nold U = f.length → nold V = f.length → (∀ x ∈ f, ElemOK x ∧ Low x) → (∀ a ∈ U, UOK a) → (∀ a ∈ V, UOK a) → (∀ y ∈ adds U, tagP c1 y) → (∀ y ∈ adds V, tagP c2 y) → Meets c1 c2 f U V A B := by
  induction h with
  | nil =>
    intro f h0 _ _ _ _ _ _
    have : f = [] := List.eq_nil_of_length_eq_zero h0.symm
    subst this
    exact ⟨rfl, rfl, rfl⟩
  | addp y h ih =>
    intro f h0 h1 hf hu hv m1 m2
    obtain ⟨e, t1, t2⟩ := ih f (by simpa only [nold] using h0) h1 hf (fun a ha => hu a (List.mem_cons_of_mem _ ha)) hv (fun z hz => m1 z (List.mem_cons_of_mem _ hz)) m2
    have ey := app_nil (hu (.add y) List.mem_cons_self).2
    have ty := m1 y List.mem_cons_self
    refine ⟨?_, ?_, ?_⟩
    · rw [run, run, run, ey]; simp only; rw [e]
    · rw [run, run, ey]; simp only; rw [tag, if_pos ty, t1]; rfl
    · rw [run, run, ey]; simp only; rw [tag, if_neg (fun h => hc (ty.1.symm.trans h.1)), t2]
  | addq y h ih =>
    intro f h0 h1 hf hu hv m1 m2
    obtain ⟨e, t1, t2⟩ := ih f h0 (by simpa only [nold] using h1) hf hu (fun a ha => hv a (List.mem_cons_of_mem _ ha)) m1 (fun z hz => m2 z (List.mem_cons_of_mem _ hz))
    have ey := app_nil (hv (.add y) List.mem_cons_self).2
    have ty := m2 y List.mem_cons_self
    refine ⟨?_, ?_, ?_⟩
    · rw [run, run, run, ey]; simp only; rw [e]
    · rw [run]; simp only; rw [tag, if_neg (fun h => hc (h.1.symm.trans ty.1)), t1]
    · rw [run]; simp only; rw [tag, if_pos ty, t2]; rfl
  | kk t t' h ih =>
    intro f h0 h1 hf hu hv m1 m2
    cases f with
    | nil => simp [nold] at h0
    | cons x f =>
      obtain ⟨e, t1, t2⟩ := ih f (by simp only [nold, List.length_cons] at h0; omega) (by simp only [nold, List.length_cons] at h1; omega) (fun y hy => hf y (List.mem_cons_of_mem _ hy)) (fun a ha => hu a (List.mem_cons_of_mem _ ha)) (fun a ha => hv a (List.mem_cons_of_mem _ ha)) m1 m2
      have hx := hf x List.mem_cons_self
      have ex := app_without hx.1.2 (hu _ List.mem_cons_self) (hv _ List.mem_cons_self)
      refine ⟨?_, ?_, ?_⟩
      · rw [run, run, run, run, ex]; simp only; rw [e]
      · rw [run, run]; simp only; rw [tag, if_neg (fun h => hx.2 h.2), t1]; rfl
      · rw [run, run]; simp only; rw [tag, if_neg (fun h => hx.2 h.2), t2]; rfl
  | kc t h ih =>
    intro f h0 h1 hf hu hv m1 m2
    cases f with
    | nil => simp [nold] at h0
    | cons x f =>
      obtain ⟨e, t1, t2⟩ := ih f (by simp only [nold, List.length_cons] at h0; omega) (by simp only [nold, List.length_cons] at h1; omega) (fun y hy => hf y (List.mem_cons_of_mem _ hy)) (fun a ha => hu a (List.mem_cons_of_mem _ ha)) (fun a ha => hv a (List.mem_cons_of_mem _ ha)) m1 m2
      refine ⟨?_, ?_, ?_⟩
      · rw [run, run, run]; exact e
      · rw [run, run]; exact t1
      · rw [run, run]; exact t2
  | ck t' h ih =>
    intro f h0 h1 hf hu hv m1 m2
    cases f with
    | nil => simp [nold] at h0
    | cons x f =>
      obtain ⟨e, t1, t2⟩ := ih f (by simp only [nold, List.length_cons] at h0; omega) (by simp only [nold, List.length_cons] at h1; omega) (fun y hy => hf y (List.mem_cons_of_mem _ hy)) (fun a ha => hu a (List.mem_cons_of_mem _ ha)) (fun a ha => hv a (List.mem_cons_of_mem _ ha)) m1 m2
      refine ⟨?_, ?_, ?_⟩
      · rw [run, run, run]; exact e
      · rw [run]; exact t1
      · rw [run]; exact t2
  | cc h ih =>
    intro f h0 h1 hf hu hv m1 m2
    cases f with
    | nil => simp [nold] at h0
    | cons x f =>
      obtain ⟨e, t1, t2⟩ := ih f (by simp only [nold, List.length_cons] at h0; omega) (by simp only [nold, List.length_cons] at h1; omega) (fun y hy => hf y (List.mem_cons_of_mem _ hy)) (fun a ha => hu a (List.mem_cons_of_mem _ ha)) (fun a ha => hv a (List.mem_cons_of_mem _ ha)) m1 m2
      refine ⟨?_, ?_, ?_⟩
      · rw [run, run]; exact e
      · rw [run]; exact t1
      · rw [run]; exact t2
theorem Pn.counts {U V A B : List Un} (h : Pn U V A B) : nold A = nnew V ∧ nold B = nnew U ∧ A.length ≤ U.length + V.length ∧ B.length ≤ U.length + V.length := by
  induction h with
  | nil => exact ⟨rfl, rfl, Nat.le_refl _, Nat.le_refl _⟩
  | addp y h ih => simp only [nold, nnew, List.length_cons]; omega
  | addq y h ih => simp only [nold, nnew, List.length_cons]; omega
  | kk t t' h ih => simp only [nold, nnew, List.length_cons]; omega
  | kc t h ih => simp only [nold, nnew, List.length_cons]; omega
  | ck t h ih => simp only [nold, nnew, List.length_cons]; omega
  | cc h ih => simp only [nold, nnew, List.length_cons]; omega
section
variable {U V A B : List Un}
theorem Pn.addsp (h : Pn U V A B) : ∀ l : List S84, Pn (l.map .add ++ U) V (l.map .add ++ A) (List.replicate l.length (.keep []) ++ B)
  | [] => h
  | x :: l => .addp x (Pn.addsp h l)
theorem Pn.addsq (h : Pn U V A B) : ∀ l : List S84, Pn U (l.map .add ++ V) (List.replicate l.length (.keep []) ++ A) (l.map .add ++ B)
  | [] => h
  | x :: l => .addq x (Pn.addsq h l)
theorem Pn.kks (h : Pn U V A B) (t t' : List S38) : ∀ n : Nat, Pn (List.replicate n (.keep t) ++ U) (List.replicate n (.keep t') ++ V) (List.replicate n (.keep (mrg withoutE t t')) ++ A) (List.replicate n (.keep t') ++ B)
  | 0 => h
  | n + 1 => .kk t t' (Pn.kks h t t' n)
theorem Pn.kcs (h : Pn U V A B) (t : List S38) : ∀ n : Nat, Pn (List.replicate n (.keep t) ++ U) (List.replicate n .cut ++ V) A (List.replicate n .cut ++ B)
  | 0 => h
  | n + 1 => .kc t (Pn.kcs h t n)
theorem Pn.cks (h : Pn U V A B) (t' : List S38) : ∀ n : Nat, Pn (List.replicate n .cut ++ U) (List.replicate n (.keep t') ++ V) (List.replicate n .cut ++ A) B
  | 0 => h
  | n + 1 => .ck t' (Pn.cks h t' n)
theorem Pn.ccs (h : Pn U V A B) : ∀ n : Nat, Pn (List.replicate n .cut ++ U) (List.replicate n .cut ++ V) A B
  | 0 => h
  | n + 1 => .cc (Pn.ccs h n)
end
theorem pairS_spec {A B : Nat} (hAB : 2 * B ≤ A) (hA : A ≤ 1073741824) {s1 s2 : WD} (h1 : WF A s1) (h2 : WF A s2) {x y : S70} (hx : StepOK x) (hxa : SAt B x) (hy : StepOK y) (hya : SAt B y) (hx1 : x.f0 ≠ 1) (hy1 : y.f0 ≠ 1) {u v n : Nat} (hun : u + n ≤ (us x).length) (hvn : v + n ≤ (us y).length) (hn : 1 ≤ n)
    (hl1 : (wu s1).length + n ≤ 1073741824) (hl2 : (wu s2).length + n ≤ 1073741824) :
    ∃ s1' s2' J K, Ev (fun k => pairS k s1 s2 x y n) (s1', s2') ∧ WF A s1' ∧ WF A s2' ∧ (∀ U V A B, Pn U V A B → Pn (((us x).drop u).take n ++ U) (((us y).drop v).take n ++ V) (J ++ A) (K ++ B)) ∧ wu s1' = wu s1 ++ J ∧ wu s2' = wu s2 ++ K ∧ J.length ≤ n ∧ K.length ≤ n := by
  have kx := stepok_kind hx
  have ky := stepok_kind hy
  by_cases hx0 : x.f0 = 0
  · have vx : VA true x.f2 := by rcases hx with h | h | h; exact h.2.2.2.2; omega; omega
    rw [us_seg0 hx0 hun]
    by_cases hy0 : y.f0 = 0
    · have vy : VA true y.f2 := by rcases hy with h | h | h; exact h.2.2.2.2; omega; omega
      have hml := mrg_len withoutE x.f2 y.f2
      have a1 := hxa.1
      have a2 := hya.1
      obtain ⟨s1', e1, ws1, ew1⟩ := keep_spec (n : Int) (mrg withoutE x.f2 y.f2) h1 (va_without vx vy) (by omega) hA (by omega) (by omega)
      obtain ⟨s2', e2, ws2, ew2⟩ := keep_spec (n : Int) y.f2 h2 vy (by omega) hA (by omega) (by omega)
      rw [Int.toNat_natCast] at ew1 ew2
      rw [us_seg0 hy0 hvn]
      have e3 : Ev (fun k => (keepF k s1 (n : Int) (mrg withoutE x.f2 y.f2)).bind fun s1' => (keepF k s2 (n : Int) y.f2).bind fun s2' => some (s1', s2')) (s1', s2') := Ev.bind e1 (Ev.bind e2 (ev_some _))
      refine ⟨s1', s2', _, _, Ev.congr (fun k => ?_) e3, ws1, ws2, fun U V A B h => h.kks _ _ n, ew1, ew2, by rw [List.length_replicate]; omega, by rw [List.length_replicate]; omega⟩
      unfold pairS
      rw [if_pos ⟨hx0, hy0⟩, without_f (by omega) (by omega), Option.bind_some]
    · have hy2 : y.f0 = 2 := by omega
      rw [us_seg2 hy2 hvn]
      obtain ⟨ws, ew⟩ := cut_spec (n : Int) h2 (by omega)
      rw [Int.toNat_natCast] at ew
      refine ⟨s1, ⟨s2.out, s2.add, s2.cut + (n : Int)⟩, [], List.replicate n .cut, Ev.congr (fun k => ?_) (ev_some _), h1, ws, fun U V A B h => h.kcs _ n, (List.append_nil _).symm, ew, Nat.zero_le _, by rw [List.length_replicate]; omega⟩
      unfold pairS
      rw [if_neg (fun h => hy0 h.2), if_pos hx0, wrapc n h2 hl2]
  · have hx2 : x.f0 = 2 := by omega
    rw [us_seg2 hx2 hun]
    by_cases hy0 : y.f0 = 0
    · rw [us_seg0 hy0 hvn]
      obtain ⟨ws, ew⟩ := cut_spec (n : Int) h1 (by omega)
      rw [Int.toNat_natCast] at ew
      refine ⟨⟨s1.out, s1.add, s1.cut + (n : Int)⟩, s2, List.replicate n .cut, [], Ev.congr (fun k => ?_) (ev_some _), ws, h2, fun U V A B h => h.cks _ n, ew, (List.append_nil _).symm, by rw [List.length_replicate]; omega, Nat.zero_le _⟩
      unfold pairS
      rw [if_neg (fun h => hx0 h.1), if_neg hx0, if_pos hy0, wrapc n h1 hl1]
    · have hy2 : y.f0 = 2 := by omega
      rw [us_seg2 hy2 hvn]
      refine ⟨s1, s2, [], [], Ev.congr (fun k => ?_) (ev_some _), h1, h2, fun U V A B h => h.ccs n, (List.append_nil _).symm, (List.append_nil _).symm, Nat.zero_le _, Nat.zero_le _⟩
      unfold pairS
      rw [if_neg (fun h => hx0 h.1), if_neg hx0, if_neg hy0]
theorem add_parts {B : Nat} {y : S70} {q : List S70} {v : Nat} (hq : RP B (y :: q) v) (hy1 : y.f0 = 1) :
    RU (y :: q) v = (takeE y v (leftN y v)).map .add ++ RU q 0 ∧ POK (takeE y v (leftN y v)) ∧ (∀ z ∈ takeE y v (leftN y v), z.f2.length ≤ B) ∧ 1 ≤ (takeE y v (leftN y v)).length := by
  obtain ⟨hr, e1, e2⟩ := hq.rg
  have hv := hq.lt y q rfl
  obtain ⟨s1, s2, s3⟩ := us_seg1 hy1 (u := v) (n := leftN y v) (by omega)
  have hle : ((us y).drop v).length = leftN y v := by rw [List.length_drop]; omega
  rw [List.take_of_length_le (by omega)] at s1
  have hyk := hq.ok y List.mem_cons_self
  refine ⟨by rw [RU_cons (by omega), s1]; rfl, pok_mem.2 (fun z hz => by
    rcases hyk.1 with h | h | h
    · omega
    · exact pok_mem.1 h.2.2.2.2 z (s3 z hz)
    · omega), fun z hz => hyk.2.1.2 z (s3 z hz), by omega⟩
theorem addS_spec {A B : Nat} (hAB : 2 * B ≤ A) (hA : A ≤ 1073741824) {s1 s2 : WD} (h1 : WF A s1) (h2 : WF A s2) (l : List S84) (hp : POK l) (hat : ∀ z ∈ l, z.f2.length ≤ B) (hn : 1 ≤ l.length) (hl1 : (wu s1).length + l.length ≤ 1073741824) (hl2 : (wu s2).length + l.length ≤ 1073741824) :
    (∃ s1' s2', Ev (fun k => addS k s1 s2 l) (s1', s2') ∧ WF A s1' ∧ WF A s2' ∧ E (wu s1') (wu s1 ++ l.map .add) ∧ wu s2' = wu s2 ++ List.replicate l.length (.keep [])) ∧
    (∃ s1' s2', Ev (fun k => addQ k s1 s2 l) (s1', s2') ∧ WF A s1' ∧ WF A s2' ∧ wu s1' = wu s1 ++ List.replicate l.length (.keep []) ∧ E (wu s2') (wu s2 ++ l.map .add)) := by
  constructor
  · obtain ⟨s1', e1, ws1, ew1⟩ := elems_spec l h1 hp (fun z hz => by have := hat z hz; omega) hA (by omega)
    obtain ⟨s2', e2, ws2, ew2⟩ := keep_spec (l.length : Int) [] h2 (va_nil true) (Nat.zero_le _) hA (by omega) (by omega)
    rw [Int.toNat_natCast] at ew2
    exact ⟨s1', s2', Ev.bind e1 (Ev.bind e2 (ev_some _)), ws1, ws2, ew1, ew2⟩
  · obtain ⟨s2', e2, ws2, ew2⟩ := elems_spec l h2 hp (fun z hz => by have := hat z hz; omega) hA (by omega)
    obtain ⟨s1', e1, ws1, ew1⟩ := keep_spec (l.length : Int) [] h1 (va_nil true) (Nat.zero_le _) hA (by omega) (by omega)
    rw [Int.toNat_natCast] at ew1
    exact ⟨s1', s2', Ev.bind e1 (Ev.bind e2 (ev_some _)), ws1, ws2, ew1, ew2⟩
theorem pair_spec {A B : Nat} (hAB : 2 * B ≤ A) (hA : A ≤ 1073741824) : ∀ (m : Nat) (P : List S70) (u : Nat) (Q : List S70) (v : Nat) (s1 s2 : WD), (RU P u).length + (RU Q v).length < m → WF A s1 → WF A s2 → RP B P u → RP B Q v → nold (RU P u) = nold (RU Q v) → (wu s1).length + (RU P u).length + (RU Q v).length ≤ 1073741824 → (wu s2).length + (RU P u).length + (RU Q v).length ≤ 1073741824 →
    ∃ o1 o2 X Y, Ev (fun k => pairF k m P u Q v s1 s2) ((o1, 0), (o2, 0)) ∧ FO A o1 ∧ FO A o2 ∧ Pn (RU P u) (RU Q v) X Y ∧ E (units o1) (wu s1 ++ X) ∧ E (units o2) (wu s2 ++ Y)
  | 0, P, u, Q, v, s1, s2, h, _, _, _, _, _, _, _ => by omega
  | m + 1, [], u, [], v, s1, s2, h, h1, h2, hp, hq, hnn, hl1, hl2 => by
    obtain ⟨o1, e1, fo1, eu1⟩ := done_spec h1 hA (by omega)
    obtain ⟨o2, e2, fo2, eu2⟩ := done_spec h2 hA (by omega)
    exact ⟨o1, o2, [], [], Ev.bind e1 (Ev.bind e2 (ev_some _)), fo1, fo2, by simpa [RU, units_nil] using Pn.nil, by rw [eu1, List.append_nil]; exact E.refl _, by rw [eu2, List.append_nil]; exact E.refl _⟩
  | m + 1, [], u, y :: q, v, s1, s2, h, h1, h2, hp, hq, hnn, hl1, hl2 => by
    obtain ⟨hr, e1, e2⟩ := hq.rg
    have hv := hq.lt y q rfl
    have hy1 : y.f0 = 1 := by
      by_cases hy1 : y.f0 = 1
      · exact hy1
      · have := nold_one (hq.ok y List.mem_cons_self).1 hy1 hv
        rw [RU_cons (x := y) (by omega), nold_app] at hnn
        simp only [RU, units_nil, List.drop_nil, nold] at hnn
        omega
    obtain ⟨hR, hpo, hat, hl⟩ := add_parts hq hy1
    obtain ⟨l, hlq⟩ : ∃ l, l = takeE y v (leftN y v) := ⟨_, rfl⟩
    rw [← hlq] at hR hpo hat hl
    rw [hR] at h hnn hl1 hl2 ⊢
    simp only [List.length_append, List.length_map, nold_app, nold_adds] at h hnn hl1 hl2
    obtain ⟨s1', s2', e, ws1, ws2, ew1, ew2⟩ := (addS_spec hAB hA h1 h2 l hpo hat hl (by omega) (by omega)).2
    have hw1 : (wu s1').length = (wu s1).length + l.length := by rw [ew1, List.length_append, List.length_replicate]
    have hw2 := ew2.len
    rw [List.length_append, List.length_map] at hw2
    obtain ⟨o1, o2, X, Y, e', f1, f2, hP, eo1, eo2⟩ := pair_spec hAB hA m [] u q 0 s1' s2' (by omega) ws1 ws2 hp hq.rest (by omega) (by omega) (by omega)
    refine ⟨o1, o2, List.replicate l.length (.keep []) ++ X, l.map .add ++ Y, Ev.congr (fun k => ?_) (Ev.bind (f := fun k (t : WD × WD) => pairF k m [] u q 0 t.1 t.2) e e'), f1, f2, hP.addsq l, eo1.trans (by rw [← List.append_assoc, ew1]; exact E.refl _), eo2.trans (by rw [← List.append_assoc]; exact ew2.app (E.refl _))⟩
    rw [pairF, if_neg (not_not_intro hr), if_pos hy1, ← hlq]
  | m + 1, x :: p, u, Q, v, s1, s2, h, h1, h2, hp, hq, hnn, hl1, hl2 => by
    obtain ⟨hrx, ex1, ex2⟩ := hp.rg
    have hu := hp.lt x p rfl
    have hxk := hp.ok x List.mem_cons_self
    by_cases hx1 : x.f0 = 1
    · obtain ⟨hR, hpo, hat, hl⟩ := add_parts hp hx1
      obtain ⟨l, hlq⟩ : ∃ l, l = takeE x u (leftN x u) := ⟨_, rfl⟩
      rw [← hlq] at hR hpo hat hl
      rw [hR] at h hnn hl1 hl2 ⊢
      simp only [List.length_append, List.length_map, nold_app, nold_adds] at h hnn hl1 hl2
      obtain ⟨s1', s2', e, ws1, ws2, ew1, ew2⟩ := (addS_spec hAB hA h1 h2 l hpo hat hl (by omega) (by omega)).1
      have hw2 : (wu s2').length = (wu s2).length + l.length := by rw [ew2, List.length_append, List.length_replicate]
      have hw1 := ew1.len
      rw [List.length_append, List.length_map] at hw1
      obtain ⟨o1, o2, X, Y, e', f1, f2, hP, eo1, eo2⟩ := pair_spec hAB hA m p 0 Q v s1' s2' (by omega) ws1 ws2 hp.rest hq (by omega) (by omega) (by omega)
      refine ⟨o1, o2, l.map .add ++ X, List.replicate l.length (.keep []) ++ Y, Ev.congr (fun k => ?_) (Ev.bind (f := fun k (t : WD × WD) => pairF k m p 0 Q v t.1 t.2) e e'), f1, f2, hP.addsp l, eo1.trans (by rw [← List.append_assoc]; exact ew1.app (E.refl _)), eo2.trans (by rw [← List.append_assoc, ew2]; exact E.refl _)⟩
      rw [pairF_cons hrx, if_pos hx1, ← hlq]
    · have hn1 := nold_one hxk.1 hx1 hu
      have hn2 : 1 ≤ nold (RU (x :: p) u) := by rw [RU_cons (by omega), nold_app]; omega
      cases Q with
      | nil => simp only [RU, units_nil, List.drop_nil, nold] at hnn hn2; omega
      | cons y q =>
      obtain ⟨hry, ey1, ey2⟩ := hq.rg
      have hv := hq.lt y q rfl
      have hyk := hq.ok y List.mem_cons_self
      by_cases hy1 : y.f0 = 1
      · obtain ⟨hR, hpo, hat, hl⟩ := add_parts hq hy1
        obtain ⟨l, hlq⟩ : ∃ l, l = takeE y v (leftN y v) := ⟨_, rfl⟩
        rw [← hlq] at hR hpo hat hl
        rw [hR] at h hnn hl1 hl2 ⊢
        simp only [List.length_append, List.length_map, nold_app, nold_adds] at h hnn hl1 hl2
        obtain ⟨s1', s2', e, ws1, ws2, ew1, ew2⟩ := (addS_spec hAB hA h1 h2 l hpo hat hl (by omega) (by omega)).2
        have hw1 : (wu s1').length = (wu s1).length + l.length := by rw [ew1, List.length_append, List.length_replicate]
        have hw2 := ew2.len
        rw [List.length_append, List.length_map] at hw2
        obtain ⟨o1, o2, X, Y, e', f1, f2, hP, eo1, eo2⟩ := pair_spec hAB hA m (x :: p) u q 0 s1' s2' (by omega) ws1 ws2 hp hq.rest (by omega) (by omega) (by omega)
        refine ⟨o1, o2, List.replicate l.length (.keep []) ++ X, l.map .add ++ Y, Ev.congr (fun k => ?_) (Ev.bind (f := fun k (t : WD × WD) => pairF k m (x :: p) u q 0 t.1 t.2) e e'), f1, f2, hP.addsq l, eo1.trans (by rw [← List.append_assoc, ew1]; exact E.refl _), eo2.trans (by rw [← List.append_assoc]; exact ew2.app (E.refl _))⟩
        rw [pairF_cons hrx, if_neg hx1, pairQ, if_neg (not_not_intro hry), if_pos hy1, ← hlq]
      · obtain ⟨n, hn⟩ : ∃ n, n = min (leftN x u) (leftN y v) := ⟨_, rfl⟩
        have hun : u + n ≤ (us x).length := by omega
        have hvn : v + n ≤ (us y).length := by omega
        have hn0 : 1 ≤ n := by omega
        obtain ⟨hp', hRP⟩ := adv_spec hp hun
        obtain ⟨hq', hRQ⟩ := adv_spec hq hvn
        obtain ⟨p1, hp1⟩ : ∃ p1, p1 = adv x p u n := ⟨_, rfl⟩
        obtain ⟨q1, hq1⟩ : ∃ q1, q1 = adv y q v n := ⟨_, rfl⟩
        rw [← hp1] at hp' hRP
        rw [← hq1] at hq' hRQ
        have hlx : (((us x).drop u).take n).length = n := by rw [List.length_take, List.length_drop]; omega
        have hly : (((us y).drop v).take n).length = n := by rw [List.length_take, List.length_drop]; omega
        have hlp : (RU (x :: p) u).length = n + (RU p1.1 p1.2).length := by rw [hRP, List.length_append, hlx]
        have hlq : (RU (y :: q) v).length = n + (RU q1.1 q1.2).length := by rw [hRQ, List.length_append, hly]
        obtain ⟨s1', s2', J, K, e, ws1, ws2, hJn, ew1, ew2, hJl, hKl⟩ := pairS_spec hAB hA h1 h2 hxk.1 hxk.2.1 hyk.1 hyk.2.1 hx1 hy1 hun hvn hn0 (by omega) (by omega)
        have cnt : ∀ (z : S70) (t : Nat), StepOK z → z.f0 ≠ 1 → t + n ≤ (us z).length → nold (((us z).drop t).take n) = n := by
          intro z t hz hz1 ht
          have kz := stepok_kind hz
          by_cases h0 : z.f0 = 0
          · rw [us_seg0 h0 ht, nold_keeps]
          · rw [us_seg2 (x := z) (by omega) ht, nold_cuts]
        have hc1 := cnt x u hxk.1 hx1 hun
        have hc2 := cnt y v hyk.1 hy1 hvn
        have hnn' : nold (RU p1.1 p1.2) = nold (RU q1.1 q1.2) := by
          rw [hRP, hRQ, nold_app, nold_app] at hnn
          omega
        have hw1 : (wu s1').length = (wu s1).length + J.length := by rw [ew1, List.length_append]
        have hw2 : (wu s2').length = (wu s2).length + K.length := by rw [ew2, List.length_append]
        obtain ⟨o1, o2, X, Y, e', f1, f2, hP, eo1, eo2⟩ := pair_spec hAB hA m p1.1 p1.2 q1.1 q1.2 s1' s2' (by omega) ws1 ws2 hp' hq' hnn' (by omega) (by omega)
        refine ⟨o1, o2, J ++ X, K ++ Y, Ev.congr (fun k => ?_) (Ev.bind (f := fun k (t : WD × WD) => pairF k m p1.1 p1.2 q1.1 q1.2 t.1 t.2) e e'), f1, f2, ?_, eo1.trans (by rw [← List.append_assoc, ew1]; exact E.refl _), eo2.trans (by rw [← List.append_assoc, ew2]; exact E.refl _)⟩
        · rw [pairF_cons hrx, if_neg hx1, pairQ, if_neg (not_not_intro hry), if_neg hy1, ← hn, ← hp1, ← hq1]
        · rw [hRP, hRQ]
          exact hJn _ _ _ _ hP
end Go.Proofs.Ytdgemabmmomebaa.PDelta
end
section
namespace Go.Proofs.Ytdgemabmmomebaa.PDelta
open Go.RowKit Go.Proofs.YtdgemabmmomebaaW.PrintWords Go.Proofs.YtdgemabmmomebaaW.PrintLast Go.Proofs.YtdgemabmmomebaaW.PrintMore
attribute [local go_sem] min_two
theorem keepNil_calls (ok : Nat → Prop) (w0 : World) (g : Nat) (s s' : WD) (n : Int) (vI uI : Value) (w : World) (k : Nat) (h : WrS ok w0 w g vI uI s vI uI w) (hok : ∀ k, w.heap.size ≤ k → ok k) (hf : keepF k s n [] = some s') :
    Calls Try.prog 86 #[.pointer (some ⟨g, 0, none⟩), .int .i64 n, .slice none 0 0] w fun e w' => e = .returned (.tuple #[]) ∧ ∃ v u, WrS ok w0 w g vI uI s' v u w' :=
  keepF_calls ok w0 g s s' n vI uI w k none 0 [] h hok (Kd.F_nil _ _ _) (Nat.le_refl 0) hf
set_option maxRecDepth 100000 in
set_option maxHeartbeats 8000000 in
theorem pair_calls (k m0 : Nat) (A0 : Option Addr) (c0 : Nat) (l0 : List S70) (A1 : Option Addr) (c1 : Nat) (l1 : List S70) (n0 n1 n2 : Int) (o1 o2 : List S70) (w : World) (hr0 : Kd.C k70 w A0 l0.length l0) (hc0 : l0.length ≤ c0) (hr1 : Kd.C k70 w A1 l1.length l1) (hc1 : l1.length ≤ c1)
    (he0 : delta_Check.f k l0 = some 0) (he1 : delta_Check.f k l1 = some 0) (hn0 : delta_lengths.f k l0 = some (n0, n1)) (hn1 : delta_lengths.f k l1 = some (n0, n2)) (h : pairF k m0 l0 0 l1 0 ⟨[], [], 0⟩ ⟨[], [], 0⟩ = some ((o1, 0), (o2, 0))) :
    Calls Try.prog 53 #[.slice A0 l0.length c0, .slice A1 l1.length c1] w fun e w' => ∃ v1 v2 : Value, e = .returned (.tuple #[v1, v2, .int .i64 0]) ∧ Kd.N k70 70 w' w.heap.size (fun _ => True) v1 o1 ∧ Kd.N k70 70 w' w.heap.size (fun _ => True) v2 o2 ∧ Below w.heap.size w w' := by
  have hu70 := Try.underlying70
  have hu84 := Try.underlying84
  have hu127 := Try.underlying127
  have hu138 := Try.underlying138
  have HR0 := Aside0.mk hr0
  have HC0 := Aside0.mk hc0
  have HR1 := Aside0.mk hr1
  have HC1 := Aside0.mk hc1
  have HE0 := Aside0.mk he0
  have HE1 := Aside0.mk he1
  have HN0 := Aside0.mk hn0
  have HN1 := Aside0.mk hn1
  have HF := Aside0.mk h
  clear hr0 hc0 hr1 hc1 he0 he1 hn0 hn1 h
  go_enter Try.func53, Try.ntmps53
  go_upto_region 4 with (go_at_call 93; (with_reducible refine (delta_Check.calls k _ _ l0 0 _ HR0.out HC0.out HE0.out).mono ?_); rintro e1 w1 ⟨rfl, hb⟩; have HB1 := Aside0.mk hb; clear hb)
  go_upto_region 7 with (go_at_call 93; (with_reducible refine (delta_Check.calls k _ _ l1 0 _ (Kd.C_below HR1.out HB1.out) HC1.out HE1.out).mono ?_); rintro e2 w2 ⟨rfl, hb⟩; have HB2 := Aside0.mk (below_step HB1.out hb); clear hb)
  go_upto_region 8 with (go_at_call 94; (with_reducible refine (delta_lengths.calls k _ _ l0 n0 n1 _ (Kd.C_below HR0.out HB2.out) HC0.out HN0.out).mono ?_); rintro e3 w3 ⟨rfl, hb⟩; have HB3 := Aside0.mk (below_step HB2.out hb); clear hb)
  go_upto_region 11 with (go_at_call 94; (with_reducible refine (delta_lengths.calls k _ _ l1 n0 n2 _ (Kd.C_below HR1.out HB3.out) HC1.out HN1.out).mono ?_); rintro e4 w4 ⟨rfl, hb⟩; have HB4 := Aside0.mk (below_step HB3.out hb); clear hb)
  clear HB1 HB2 HB3 HE0 HE1 HN0 HN1
  go_wp2
  obtain ⟨g1, hg1⟩ : ∃ g, g = w4.heap.size := ⟨_, rfl⟩
  obtain ⟨g2, hg2⟩ : ∃ g, g = w4.heap.size + 1 := ⟨_, rfl⟩
  obtain ⟨gp, hgp⟩ : ∃ g, g = w4.heap.size + 1 + 1 := ⟨_, rfl⟩
  obtain ⟨gq, hgq⟩ : ∃ g, g = w4.heap.size + 1 + 1 + 1 := ⟨_, rfl⟩
  obtain ⟨oW, hoW⟩ : ∃ o, o = (Obj.cells #[Value.slice none 0 0, Value.slice none 0 0, Value.int IntKind.i64 0] 127 (0, 0)) := ⟨_, rfl⟩
  obtain ⟨oP, hoP⟩ : ∃ o, o = (Obj.cells #[Value.slice A0 l0.length c0, Value.int IntKind.i64 0] 138 (0, 0)) := ⟨_, rfl⟩
  obtain ⟨oQ, hoQ⟩ : ∃ o, o = (Obj.cells #[Value.slice A1 l1.length c1, Value.int IntKind.i64 0] 138 (0, 0)) := ⟨_, rfl⟩
  obtain ⟨w5, hw5⟩ : ∃ w', w' = (((w4.alloc oW).alloc oW).alloc oP).alloc oQ := ⟨_, rfl⟩
  have HJ0 : Aside0 (PaS w g1 g2 gp gq l0 0 l1 0 ⟨[], [], 0⟩ ⟨[], [], 0⟩ w5) := by
    have hz := HB4.out.size
    have hb : Below w.heap.size w w5 := by rw [hw5]; exact below_alloc (below_alloc (below_alloc (below_alloc HB4.out _) _) _) _
    have k1 : w5.heap[g1]? = some oW := by rw [hw5, hg1]; exact blk_alloc (blk_alloc (blk_alloc (blk_new _ _) _) _) _
    have k2 : w5.heap[g2]? = some oW := by
      rw [hw5, hg2]
      have := blk_new (w4.alloc oW) oW
      rw [World.size_alloc] at this
      exact blk_alloc (blk_alloc this _) _
    have kp : w5.heap[gp]? = some oP := by
      rw [hw5, hgp]
      have := blk_new ((w4.alloc oW).alloc oW) oP
      rw [World.size_alloc, World.size_alloc] at this
      exact blk_alloc this _
    have kq : w5.heap[gq]? = some oQ := by
      rw [hw5, hgq]
      have := blk_new (((w4.alloc oW).alloc oW).alloc oP) oQ
      rwa [World.size_alloc, World.size_alloc, World.size_alloc] at this
    rw [hoW] at k1 k2
    rw [hoP] at kp
    rw [hoQ] at kq
    exact ⟨⟨.slice none 0 0, .slice none 0 0, .slice none 0 0, .slice none 0 0, ⟨by omega, k1, Kd.N_nil _ _ _ _ _, Kd.N_nil _ _ _ _ _, hb, Moves2.refl _ _ _ _⟩, ⟨by omega, k2, Kd.N_nil _ _ _ _ _, Kd.N_nil _ _ _ _ _, hb, Moves2.refl _ _ _ _⟩⟩,
      ⟨by omega, hb, A0, c0, kp, HC0.out, HR0.out⟩, ⟨by omega, hb, A1, c1, kq, HC1.out, HR1.out⟩, by omega, by omega⟩
  rw [hoW, hoP, hoQ] at hw5
  rw [← hw5, ← hgq, ← hgp, ← hg2, ← hg1]
  clear hg1 hg2 hgp hgq hw5 hoW hoP hoQ HB4 HR0 HR1 HC0 HC1
  go_loopg [] m0 (fun m wr => ∃ (P : List S70) (u : Nat) (Q : List S70) (v : Nat) (s1 s2 : WD), Aside0 (PaS w g1 g2 gp gq P u Q v s1 s2 wr) ∧ Aside0 (pairF k m P u Q v s1 s2 = some ((o1, 0), (o2, 0))))
  case atStart => exact ⟨l0, 0, l1, 0, ⟨[], [], 0⟩, ⟨[], [], 0⟩, HJ0, HF⟩
  case round =>
    clear HJ0 HF
    obtain ⟨P, u, Q, v, s1, s2, HJ, HL⟩ := hrel
    cases gk with
    | zero => exact absurd HL.out (by rw [pairF]; simp)
    | succ gl =>
    cases P with
    | nil =>
      cases Q with
      | nil =>
        have hL : ((doneD k s1).bind fun r1 => (doneD k s2).bind fun r2 => some (r1, r2)) = some ((o1, 0), (o2, 0)) := HL.out
        obtain ⟨r1, hd1, hL⟩ := Option.bind_eq_some_iff.1 hL
        obtain ⟨r2, hd2, hL⟩ := Option.bind_eq_some_iff.1 hL
        injection hL with hL
        injection hL with hL1 hL2
        subst hL1
        subst hL2
        have HD1 := Aside0.mk hd1
        have HD2 := Aside0.mk hd2
        clear HL hd1 hd2
        have e1 : decide ((0 : Int) ≤ kindR []) = false := rfl
        obtain ⟨a1, b1, a2, b2, h1, h2⟩ := HJ.out.ws
        have HW1 := Aside0.mk h1
        have HW2 := Aside0.mk h2
        clear h1 h2
        go_wp2_with (first | (go_at_call 95; first | ((with_reducible refine (kind_calls w gp _ _ _ HJ.out.rp).mono ?_); rintro e w_ ⟨rfl, hw_⟩; subst w_) | ((with_reducible refine (kind_calls w gq _ _ _ HJ.out.rq).mono ?_); rintro e w_ ⟨rfl, hw_⟩; subst w_)) | (go_at_call 88; (with_reducible refine (doneD_calls _ w g1 s1 o1 0 a1 b1 _ k HW1.out (HJ.out.hok HW2.out) HD1.out).mono ?_); rintro e1 w6 ⟨v6, rfl, hR, hB, vM, hM, _⟩; have HV2 := Aside0.mk ((other_kept HW1.out HW2.out HJ.out.ne hM hB).weaken (fun _ _ => trivial) (ok' := fun _ => True)); have HR6 := Aside0.mk hR; obtain ⟨A9, n9, hv9⟩ := Kd.N_slice hR; subst hv9; clear hR hB hM) | (go_at_call 88; (with_reducible refine (doneD_calls _ w g2 s2 o2 0 a2 b2 _ k HV2.out (fun _ _ => trivial) HD2.out).mono ?_); rintro e1 w7 ⟨v7, rfl, hR, hB, vM, hM, _⟩; have HR7 := Aside0.mk hR; have HRA := Aside0.mk (Kd.N_step HR6.out (fun k hk hlt => hM.frame k hlt hk.1.2.1.1 hk.1.2.1.2 hk.1.2.2)); obtain ⟨A8, n8, hv8⟩ := Kd.N_slice hR; subst hv8; have HB7 := Aside0.mk hB; clear hR hB hM))
        go_ret3
        exact ⟨_, _, rfl, Kd.N_mono HRA.out (fun _ _ => trivial), Kd.N_mono HR7.out (fun _ _ => trivial), HB7.out⟩
      | cons y q =>
        have hL : (if ¬ RG y v then none else if y.f0 = 1 then (addQ k s1 s2 (takeE y v (leftN y v))).bind (fun t => pairF k gl [] u q 0 t.1 t.2) else none) = some ((o1, 0), (o2, 0)) := HL.out
        clear HL
        by_cases hry : RG y v
        rotate_left
        · rw [if_pos hry] at hL; cases hL
        rw [if_neg (not_not_intro hry)] at hL
        by_cases hy1 : y.f0 = 1
        rotate_left
        · rw [if_neg hy1] at hL; cases hL
        rw [if_pos hy1] at hL
        have e1 : decide ((0 : Int) ≤ kindR []) = false := rfl
        have e2 : decide ((0 : Int) ≤ kindR (y :: q)) = true := decide_eq_true hry.1
        have e3 : (kindR [] == 1) = false := rfl
        have e4 : (kindR (y :: q) == 1) = true := beq_iff_eq.mpr hy1
        clear hy1
        have LY := left_ok hry
        have HUN := Aside0.mk (show ((v + leftN y v : Nat) : Int) ≤ szS y from Int.le_of_eq LY.2.1)
        have HSZ := Aside0.mk hry.2.2
        have l1 := LY.1
        have HAD := Aside0.mk (show adv y q v (leftN y v) = (q, 0) from if_pos LY.2.1)
        obtain ⟨t, hs', hL⟩ := Option.bind_eq_some_iff.1 hL
        have HL := Aside0.mk hL
        obtain ⟨sa, hsa, hs'⟩ := Option.bind_eq_some_iff.1 hs'
        obtain ⟨sb, hsb, hs'⟩ := Option.bind_eq_some_iff.1 hs'
        injection hs' with hs'
        subst hs'
        have HSA := Aside0.mk hsa
        have HSB := Aside0.mk hsb
        clear hsa hsb hL LY hry
        go_upto_region 19 with ((go_at_call 95; first | ((with_reducible refine (kind_calls w gp _ _ _ HJ.out.rp).mono ?_); rintro e w_ ⟨rfl, hw_⟩; subst w_) | ((with_reducible refine (kind_calls w gq _ _ _ HJ.out.rq).mono ?_); rintro e w_ ⟨rfl, hw_⟩; subst w_)))
        obtain ⟨nn, hnn⟩ : ∃ n, n = leftN y v := ⟨_, rfl⟩
        rw [← hnn] at HUN l1 HAD HSA HSB
        clear hnn
        go_upto_region 20 with (first | (go_at_call 97; (with_reducible refine (left_calls w gq y q v _ HJ.out.rq).mono ?_); rintro e w1 ⟨rfl, hb⟩; have HJ1 := Aside0.mk (HJ.out.below hb); clear hb) | (go_at_call 96; (with_reducible refine (take_calls w gq y q v nn _ HJ1.out.rq HUN.out HSZ.out).mono ?_); rintro e w2 ⟨A2, c2, D3, e3, rfl, hA2, hA3, hR, hfr, _⟩; rw [HAD.out] at hR; have HJ2 := Aside0.mk (HJ1.out.takeq hR hfr); have HA3 := Aside0.mk hA3; clear hR hfr hA2 hA3))
        have HB5 : Aside0 (Below w2.heap.size w2 (w2.alloc (Obj.cells #[.int .i64 y.f0, .int .i64 (takeN y nn), .slice A2 y.f2.length c2, .slice D3 (takeE y v nn).length e3] 70 (0, 0)))) := ⟨below_alloc (Below.refl _ _) _⟩
        have ks := blk_new w2 (Obj.cells #[.int .i64 y.f0, .int .i64 (takeN y nn), .slice A2 y.f2.length c2, .slice D3 (takeE y v nn).length e3] 70 (0, 0))
        have HGZ : Aside0 (w2.heap.size ≤ w2.heap.size) := ⟨Nat.le_refl _⟩
        obtain ⟨gs, hgs⟩ : ∃ g, g = w2.heap.size := ⟨_, rfl⟩
        obtain ⟨w5, hw5⟩ : ∃ w', w' = w2.alloc (Obj.cells #[.int .i64 y.f0, .int .i64 (takeN y nn), .slice A2 y.f2.length c2, .slice D3 (takeE y v nn).length e3] 70 (0, 0)) := ⟨_, rfl⟩
        rw [← hw5] at ks HB5
        rw [← hgs] at ks
        replace HGZ : Aside0 (w2.heap.size ≤ gs) := ⟨by rw [hgs]; exact Nat.le_refl _⟩
        rw [← hw5, ← hgs]
        clear hw5 hgs
        have HKS := Aside0.mk ks
        have s3 : w5.cell? ⟨gs, 3, none⟩ = some (.slice D3 (takeE y v nn).length e3) := (blk_cell ks 3).trans rfl
        clear ks HJ HJ1 HUN HSZ l1 HAD
        have HJ5 := Aside0.mk (HJ2.out.below HB5.out)
        obtain ⟨a1, b1, a2, b2, h1, h2⟩ := HJ2.out.ws
        have HO1 := Aside0.mk (h1.off HGZ.out)
        have HW1 := Aside0.mk (h1.fwd HB5.out)
        have HW2 := Aside0.mk (h2.fwd HB5.out)
        clear h1 h2 HB5 HJ2 HGZ
        go_wp2_with (first | (go_at_call 86; ((with_reducible refine (keepNil_calls _ w g1 s1 sa ((takeE y v nn).length : Int) a1 b1 _ k HW1.out (HJ5.out.hok HW2.out) HSA.out).mono ?_)); rintro e7 w6 ⟨rfl, v3, u3, hW⟩; have HJ6 := Aside0.mk (HJ5.out.wrote HW1.out HW2.out hW); have HV2 := Aside0.mk (other_kept HW1.out HW2.out HJ5.out.ne hW.mv hW.bel); have HV1 := Aside0.mk (WrS.here hW); have s3b : w6.cell? ⟨gs, 3, none⟩ = some (.slice D3 (takeE y v nn).length e3) := (blk_cell ((off_keep hW.mv HO1.out (blk_lt HKS.out)).2.trans HKS.out) 3).trans rfl; clear hW HW1 HW2 HJ5) | (go_at_call 87; ((with_reducible refine (elemsF_calls _ w g2 s2 sb a2 b2 _ k D3 e3 _ HV2.out (HJ6.out.swap.hok HV1.out) (Kd.C_below HA3.out.1 HJ6.out.bel) HA3.out.2 HSB.out).mono ?_)); rintro e7 w7 ⟨rfl, v4, u4, hW⟩; have HJ7 := Aside0.mk ((HJ6.out.swap.wrote HV2.out HV1.out hW).swap); clear hW))
        go_roundg gl
        case measure => omega
        case rel => exact ⟨[], u, q, 0, sa, sb, HJ7, HL⟩
    | cons x p =>
      by_cases hrx : RG x u
      rotate_left
      · exact absurd HL.out (by rw [pairF_bad hrx]; simp)
      have hL := HL.out
      rw [pairF_cons hrx] at hL
      clear HL
      have e1 : decide ((0 : Int) ≤ kindR (x :: p)) = true := decide_eq_true hrx.1
      by_cases hx1 : x.f0 = 1
      · rw [if_pos hx1] at hL
        have e2 : (kindR (x :: p) == 1) = true := beq_iff_eq.mpr hx1
        clear hx1
        have LY := left_ok hrx
        have HUN := Aside0.mk (show ((u + leftN x u : Nat) : Int) ≤ szS x from Int.le_of_eq LY.2.1)
        have HSZ := Aside0.mk hrx.2.2
        have l1 := LY.1
        have HAD := Aside0.mk (show adv x p u (leftN x u) = (p, 0) from if_pos LY.2.1)
        obtain ⟨t, hs', hL⟩ := Option.bind_eq_some_iff.1 hL
        have HL := Aside0.mk hL
        obtain ⟨sa, hsa, hs'⟩ := Option.bind_eq_some_iff.1 hs'
        obtain ⟨sb, hsb, hs'⟩ := Option.bind_eq_some_iff.1 hs'
        injection hs' with hs'
        subst hs'
        have HSA := Aside0.mk hsa
        have HSB := Aside0.mk hsb
        clear hsa hsb hL LY hrx
        go_upto_region 15 with ((go_at_call 95; first | ((with_reducible refine (kind_calls w gp _ _ _ HJ.out.rp).mono ?_); rintro e w_ ⟨rfl, hw_⟩; subst w_) | ((with_reducible refine (kind_calls w gq _ _ _ HJ.out.rq).mono ?_); rintro e w_ ⟨rfl, hw_⟩; subst w_)))
        obtain ⟨nn, hnn⟩ : ∃ n, n = leftN x u := ⟨_, rfl⟩
        rw [← hnn] at HUN l1 HAD HSA HSB
        clear hnn
        go_upto_region 16 with (first | (go_at_call 97; (with_reducible refine (left_calls w gp x p u _ HJ.out.rp).mono ?_); rintro e w1 ⟨rfl, hb⟩; have HJ1 := Aside0.mk (HJ.out.below hb); clear hb) | (go_at_call 96; (with_reducible refine (take_calls w gp x p u nn _ HJ1.out.rp HUN.out HSZ.out).mono ?_); rintro e w2 ⟨A2, c2, D3, e3, rfl, hA2, hA3, hR, hfr, _⟩; rw [HAD.out] at hR; have HJ2 := Aside0.mk (HJ1.out.takep hR hfr); have HA3 := Aside0.mk hA3; clear hR hfr hA2 hA3))
        have HB5 : Aside0 (Below w2.heap.size w2 (w2.alloc (Obj.cells #[.int .i64 x.f0, .int .i64 (takeN x nn), .slice A2 x.f2.length c2, .slice D3 (takeE x u nn).length e3] 70 (0, 0)))) := ⟨below_alloc (Below.refl _ _) _⟩
        have ks := blk_new w2 (Obj.cells #[.int .i64 x.f0, .int .i64 (takeN x nn), .slice A2 x.f2.length c2, .slice D3 (takeE x u nn).length e3] 70 (0, 0))
        have HGZ : Aside0 (w2.heap.size ≤ w2.heap.size) := ⟨Nat.le_refl _⟩
        obtain ⟨gs, hgs⟩ : ∃ g, g = w2.heap.size := ⟨_, rfl⟩
        obtain ⟨w5, hw5⟩ : ∃ w', w' = w2.alloc (Obj.cells #[.int .i64 x.f0, .int .i64 (takeN x nn), .slice A2 x.f2.length c2, .slice D3 (takeE x u nn).length e3] 70 (0, 0)) := ⟨_, rfl⟩
        rw [← hw5] at ks HB5
        rw [← hgs] at ks
        replace HGZ : Aside0 (w2.heap.size ≤ gs) := ⟨by rw [hgs]; exact Nat.le_refl _⟩
        rw [← hw5, ← hgs]
        clear hw5 hgs
        have HKS := Aside0.mk ks
        have s3 : w5.cell? ⟨gs, 3, none⟩ = some (.slice D3 (takeE x u nn).length e3) := (blk_cell ks 3).trans rfl
        clear ks HJ HJ1 HUN HSZ l1 HAD
        have HJ5 := Aside0.mk (HJ2.out.below HB5.out)
        obtain ⟨a1, b1, a2, b2, h1, h2⟩ := HJ2.out.ws
        have HO1 := Aside0.mk (h1.off HGZ.out)
        have HW1 := Aside0.mk (h1.fwd HB5.out)
        have HW2 := Aside0.mk (h2.fwd HB5.out)
        clear h1 h2 HB5 HJ2 HGZ
        go_wp2_with (first | (go_at_call 87; ((with_reducible refine (elemsF_calls _ w g1 s1 sa a1 b1 _ k D3 e3 _ HW1.out (HJ5.out.hok HW2.out) (Kd.C_below HA3.out.1 HJ5.out.bel) HA3.out.2 HSA.out).mono ?_)); rintro e7 w6 ⟨rfl, v3, u3, hW⟩; have HJ6 := Aside0.mk (HJ5.out.wrote HW1.out HW2.out hW); have HV2 := Aside0.mk (other_kept HW1.out HW2.out HJ5.out.ne hW.mv hW.bel); have HV1 := Aside0.mk (WrS.here hW); have s3b : w6.cell? ⟨gs, 3, none⟩ = some (.slice D3 (takeE x u nn).length e3) := (blk_cell ((off_keep hW.mv HO1.out (blk_lt HKS.out)).2.trans HKS.out) 3).trans rfl; clear hW HW1 HW2 HJ5) | (go_at_call 86; ((with_reducible refine (keepNil_calls _ w g2 s2 sb ((takeE x u nn).length : Int) a2 b2 _ k HV2.out (HJ6.out.swap.hok HV1.out) HSB.out).mono ?_)); rintro e7 w7 ⟨rfl, v4, u4, hW⟩; have HJ7 := Aside0.mk ((HJ6.out.swap.wrote HV2.out HV1.out hW).swap); clear hW))
        go_roundg gl
        case measure => omega
        case rel => exact ⟨p, 0, Q, v, sa, sb, HJ7, HL⟩
      rw [if_neg hx1] at hL
      cases Q with
      | nil => exact absurd hL (by simp [pairQ])
      | cons y q =>
      rw [pairQ] at hL
      have e2 : (kindR (x :: p) == 1) = false := beq_eq_false_iff_ne.mpr hx1
      by_cases hry : RG y v
      rotate_left
      · rw [if_pos hry] at hL; cases hL
      rw [if_neg (not_not_intro hry)] at hL
      by_cases hy1 : y.f0 = 1
      · rw [if_pos hy1] at hL
        have e4 : (kindR (y :: q) == 1) = true := beq_iff_eq.mpr hy1
        clear hy1 hx1 hrx
        have LY := left_ok hry
        have HUN := Aside0.mk (show ((v + leftN y v : Nat) : Int) ≤ szS y from Int.le_of_eq LY.2.1)
        have HSZ := Aside0.mk hry.2.2
        have l1 := LY.1
        have HAD := Aside0.mk (show adv y q v (leftN y v) = (q, 0) from if_pos LY.2.1)
        obtain ⟨t, hs', hL⟩ := Option.bind_eq_some_iff.1 hL
        have HL := Aside0.mk hL
        obtain ⟨sa, hsa, hs'⟩ := Option.bind_eq_some_iff.1 hs'
        obtain ⟨sb, hsb, hs'⟩ := Option.bind_eq_some_iff.1 hs'
        injection hs' with hs'
        subst hs'
        have HSA := Aside0.mk hsa
        have HSB := Aside0.mk hsb
        clear hsa hsb hL LY hry
        go_upto_region 19 with ((go_at_call 95; first | ((with_reducible refine (kind_calls w gp _ _ _ HJ.out.rp).mono ?_); rintro e w_ ⟨rfl, hw_⟩; subst w_) | ((with_reducible refine (kind_calls w gq _ _ _ HJ.out.rq).mono ?_); rintro e w_ ⟨rfl, hw_⟩; subst w_)))
        obtain ⟨nn, hnn⟩ : ∃ n, n = leftN y v := ⟨_, rfl⟩
        rw [← hnn] at HUN l1 HAD HSA HSB
        clear hnn
        go_upto_region 20 with (first | (go_at_call 97; (with_reducible refine (left_calls w gq y q v _ HJ.out.rq).mono ?_); rintro e w1 ⟨rfl, hb⟩; have HJ1 := Aside0.mk (HJ.out.below hb); clear hb) | (go_at_call 96; (with_reducible refine (take_calls w gq y q v nn _ HJ1.out.rq HUN.out HSZ.out).mono ?_); rintro e w2 ⟨A2, c2, D3, e3, rfl, hA2, hA3, hR, hfr, _⟩; rw [HAD.out] at hR; have HJ2 := Aside0.mk (HJ1.out.takeq hR hfr); have HA3 := Aside0.mk hA3; clear hR hfr hA2 hA3))
        have HB5 : Aside0 (Below w2.heap.size w2 (w2.alloc (Obj.cells #[.int .i64 y.f0, .int .i64 (takeN y nn), .slice A2 y.f2.length c2, .slice D3 (takeE y v nn).length e3] 70 (0, 0)))) := ⟨below_alloc (Below.refl _ _) _⟩
        have ks := blk_new w2 (Obj.cells #[.int .i64 y.f0, .int .i64 (takeN y nn), .slice A2 y.f2.length c2, .slice D3 (takeE y v nn).length e3] 70 (0, 0))
        have HGZ : Aside0 (w2.heap.size ≤ w2.heap.size) := ⟨Nat.le_refl _⟩
        obtain ⟨gs, hgs⟩ : ∃ g, g = w2.heap.size := ⟨_, rfl⟩
        obtain ⟨w5, hw5⟩ : ∃ w', w' = w2.alloc (Obj.cells #[.int .i64 y.f0, .int .i64 (takeN y nn), .slice A2 y.f2.length c2, .slice D3 (takeE y v nn).length e3] 70 (0, 0)) := ⟨_, rfl⟩
        rw [← hw5] at ks HB5
        rw [← hgs] at ks
        replace HGZ : Aside0 (w2.heap.size ≤ gs) := ⟨by rw [hgs]; exact Nat.le_refl _⟩
        rw [← hw5, ← hgs]
        clear hw5 hgs
        have HKS := Aside0.mk ks
        have s3 : w5.cell? ⟨gs, 3, none⟩ = some (.slice D3 (takeE y v nn).length e3) := (blk_cell ks 3).trans rfl
        clear ks HJ HJ1 HUN HSZ l1 HAD
        have HJ5 := Aside0.mk (HJ2.out.below HB5.out)
        obtain ⟨a1, b1, a2, b2, h1, h2⟩ := HJ2.out.ws
        have HO1 := Aside0.mk (h1.off HGZ.out)
        have HW1 := Aside0.mk (h1.fwd HB5.out)
        have HW2 := Aside0.mk (h2.fwd HB5.out)
        clear h1 h2 HB5 HJ2 HGZ
        go_wp2_with (first | (go_at_call 86; ((with_reducible refine (keepNil_calls _ w g1 s1 sa ((takeE y v nn).length : Int) a1 b1 _ k HW1.out (HJ5.out.hok HW2.out) HSA.out).mono ?_)); rintro e7 w6 ⟨rfl, v3, u3, hW⟩; have HJ6 := Aside0.mk (HJ5.out.wrote HW1.out HW2.out hW); have HV2 := Aside0.mk (other_kept HW1.out HW2.out HJ5.out.ne hW.mv hW.bel); have HV1 := Aside0.mk (WrS.here hW); have s3b : w6.cell? ⟨gs, 3, none⟩ = some (.slice D3 (takeE y v nn).length e3) := (blk_cell ((off_keep hW.mv HO1.out (blk_lt HKS.out)).2.trans HKS.out) 3).trans rfl; clear hW HW1 HW2 HJ5) | (go_at_call 87; ((with_reducible refine (elemsF_calls _ w g2 s2 sb a2 b2 _ k D3 e3 _ HV2.out (HJ6.out.swap.hok HV1.out) (Kd.C_below HA3.out.1 HJ6.out.bel) HA3.out.2 HSB.out).mono ?_)); rintro e7 w7 ⟨rfl, v4, u4, hW⟩; have HJ7 := Aside0.mk ((HJ6.out.swap.wrote HV2.out HV1.out hW).swap); clear hW))
        go_roundg gl
        case measure => omega
        case rel => exact ⟨x :: p, u, q, 0, sa, sb, HJ7, HL⟩
      rw [if_neg hy1] at hL
      have e4 : (kindR (y :: q) == 1) = false := beq_eq_false_iff_ne.mpr hy1
      have lx := (left_ok hrx).1
      have ly := (left_ok hry).1
      have HSX := Aside0.mk hrx.2.2
      have HSY := Aside0.mk hry.2.2
      have HNX := Aside0.mk (show leftN x u ≤ 1099511627776 from (left_ok hrx).2.2)
      have HUX : Aside0 (((u + min (leftN x u) (leftN y v) : Nat) : Int) ≤ szS x) := ⟨by have := (left_ok hrx).2.1; omega⟩
      have HUY : Aside0 (((v + min (leftN x u) (leftN y v) : Nat) : Int) ≤ szS y) := ⟨by have := (left_ok hry).2.1; omega⟩
      have mn : Builtin.min2 (.int .i64 ((leftN x u : Nat) : Int)) (.int .i64 ((leftN y v : Nat) : Int)) = pure (.int .i64 ((min (leftN x u) (leftN y v) : Nat) : Int)) := by rw [min2_int]; congr 2; split <;> omega
      obtain ⟨t, hs', hL⟩ := Option.bind_eq_some_iff.1 hL
      have HS' := Aside0.mk hs'
      have HL := Aside0.mk hL
      clear hs' hL hrx hry hx1 hy1
      obtain ⟨nn, hnn⟩ : ∃ n, n = min (leftN x u) (leftN y v) := ⟨_, rfl⟩
      rw [← hnn] at HUX HUY mn HS' HL
      have HNN := Aside0.mk (show nn ≤ 1099511627776 by have := HNX.out; omega)
      clear hnn HNX
      go_upto_region 22 with ((go_at_call 95; first | ((with_reducible refine (kind_calls w gp _ _ _ HJ.out.rp).mono ?_); rintro e w_ ⟨rfl, hw_⟩; subst w_) | ((with_reducible refine (kind_calls w gq _ _ _ HJ.out.rq).mono ?_); rintro e w_ ⟨rfl, hw_⟩; subst w_)))
      go_upto_region 23 with (first | (go_at_call 97; (with_reducible refine (left_calls w gp x p u _ HJ.out.rp).mono ?_); rintro e w1 ⟨rfl, hb⟩; have HJ1 := Aside0.mk (HJ.out.below hb); clear hb) | (go_at_call 97; (with_reducible refine (left_calls w gq y q v _ HJ1.out.rq).mono ?_); rintro e w2 ⟨rfl, hb⟩; have HJ2 := Aside0.mk (HJ1.out.below hb); clear hb))
      clear e1 e2 e4 lx ly mn HJ HJ1
      go_upto_region 24 with (first | (go_at_call 96; (with_reducible refine (take_calls w gp x p u nn _ HJ2.out.rp HUX.out HSX.out).mono ?_); rintro e w3 ⟨A2, c2, A3, c3, rfl, hA2, hA3, hR, hfr, _⟩; have HJ3 := Aside0.mk (HJ2.out.takep hR hfr); have HA2 := Aside0.mk hA2; have HA3 := Aside0.mk hA3; clear hR hfr hA2 hA3) | (go_at_call 96; (with_reducible refine (take_calls w gq y q v nn _ HJ3.out.rq HUY.out HSY.out).mono ?_); rintro e w4 ⟨B2, b2, B3, b3, rfl, hB2, hB3, hR, hfr, _⟩; have HJ4 := Aside0.mk (HJ3.out.takeq hR hfr); have HB2 := Aside0.mk hB2; have HB3 := Aside0.mk hB3; clear hR hfr hB2 hB3))
      have HB5 := Aside0.mk (below_alloc (below_alloc (Below.refl w4.heap.size w4) (Obj.cells #[.int .i64 x.f0, .int .i64 (takeN x nn), .slice A2 x.f2.length c2, .slice A3 (takeE x u nn).length c3] 70 (0, 0))) (Obj.cells #[.int .i64 y.f0, .int .i64 (takeN y nn), .slice B2 y.f2.length b2, .slice B3 (takeE y v nn).length b3] 70 (0, 0)))
      have ks := blk_alloc (blk_new w4 (Obj.cells #[.int .i64 x.f0, .int .i64 (takeN x nn), .slice A2 x.f2.length c2, .slice A3 (takeE x u nn).length c3] 70 (0, 0))) (Obj.cells #[.int .i64 y.f0, .int .i64 (takeN y nn), .slice B2 y.f2.length b2, .slice B3 (takeE y v nn).length b3] 70 (0, 0))
      have kt := blk_new (w4.alloc (Obj.cells #[.int .i64 x.f0, .int .i64 (takeN x nn), .slice A2 x.f2.length c2, .slice A3 (takeE x u nn).length c3] 70 (0, 0))) (Obj.cells #[.int .i64 y.f0, .int .i64 (takeN y nn), .slice B2 y.f2.length b2, .slice B3 (takeE y v nn).length b3] 70 (0, 0))
      rw [World.size_alloc] at kt
      obtain ⟨gs, hgs⟩ : ∃ g, g = w4.heap.size := ⟨_, rfl⟩
      obtain ⟨gt, hgt⟩ : ∃ g, g = w4.heap.size + 1 := ⟨_, rfl⟩
      obtain ⟨w5, hw5⟩ : ∃ w', w' = (w4.alloc (Obj.cells #[.int .i64 x.f0, .int .i64 (takeN x nn), .slice A2 x.f2.length c2, .slice A3 (takeE x u nn).length c3] 70 (0, 0))).alloc (Obj.cells #[.int .i64 y.f0, .int .i64 (takeN y nn), .slice B2 y.f2.length b2, .slice B3 (takeE y v nn).length b3] 70 (0, 0)) := ⟨_, rfl⟩
      rw [← hw5] at HB5 ks kt
      have HJ5 := Aside0.mk (HJ4.out.below HB5.out)
      rw [← hgs] at ks
      rw [← hgt] at kt
      have HGT := Aside0.mk (show w4.heap.size ≤ gt by omega)
      rw [← hw5, ← hgt, ← hgs]
      clear hw5 hgs hgt HJ3 HJ2
      have HKT := Aside0.mk kt
      have s0 : w5.cell? ⟨gs, 0, none⟩ = some (.int .i64 x.f0) := (blk_cell ks 0).trans rfl
      have t0 : w5.cell? ⟨gt, 0, none⟩ = some (.int .i64 y.f0) := (blk_cell kt 0).trans rfl
      have s2' : w5.cell? ⟨gs, 2, none⟩ = some (.slice A2 x.f2.length c2) := (blk_cell ks 2).trans rfl
      have t2 : w5.cell? ⟨gt, 2, none⟩ = some (.slice B2 y.f2.length b2) := (blk_cell kt 2).trans rfl
      clear ks kt
      have hS := HS'.out
      rw [pairS] at hS
      clear HS'
      by_cases hx0 : x.f0 = 0
      · have e1 : (x.f0 == 0) = true := beq_iff_eq.mpr hx0
        by_cases hy0 : y.f0 = 0
        · have e2 : (y.f0 == 0) = true := beq_iff_eq.mpr hy0
          rw [if_pos ⟨hx0, hy0⟩] at hS
          obtain ⟨bo, hbo, hS⟩ := Option.bind_eq_some_iff.1 hS
          obtain ⟨sa, hsa, hS⟩ := Option.bind_eq_some_iff.1 hS
          obtain ⟨sb, hsb, hS⟩ := Option.bind_eq_some_iff.1 hS
          injection hS with hS
          subst hS
          have HBO := Aside0.mk hbo
          have HSA := Aside0.mk hsa
          have HSB := Aside0.mk hsb
          clear hx0 hy0 hbo hsa hsb
          obtain ⟨a1, d1, a2, d2, h1, h2⟩ := HJ4.out.ws
          have HO1 := Aside0.mk (h1.off HGT.out)
          have HW1 := Aside0.mk (h1.fwd HB5.out)
          have HW2 := Aside0.mk (h2.fwd HB5.out)
          clear h1 h2 HJ4
          go_wp2_with (first | (go_at_call 68; (with_reducible refine (attr_Without.calls A2 c2 x.f2 B2 b2 y.f2 bo _ (Kd.C_below HA2.out.1 HJ5.out.bel) HA2.out.2 (Kd.C_below HB2.out.1 HJ5.out.bel) HB2.out.2 HBO.out).mono ?_); rintro e w6 ⟨v6, rfl, hR6, hb6⟩; obtain ⟨A6, n6, h6⟩ := Kd.R_slice hR6; subst h6; have HR6 := Aside0.mk hR6; have HB6 := Aside0.mk hb6; have HJ6 := Aside0.mk (HJ5.out.below hb6); clear hR6 hb6) | (go_at_call 86; ((with_reducible refine (keepF_calls _ w g1 s1 sa (nn : Int) a1 d1 _ k A6 n6 bo (HW1.out.fwd HB6.out) (HJ6.out.hok (HW2.out.fwd HB6.out)) (off_new HW1.out HR6.out) (Kd.R_reads' HR6.out).2.1 HSA.out).mono ?_)); rintro e7 w7 ⟨rfl, v7, u7, hW⟩; have HJ7 := Aside0.mk (HJ6.out.wrote (HW1.out.fwd HB6.out) (HW2.out.fwd HB6.out) hW); have HV2 := Aside0.mk (other_kept (HW1.out.fwd HB6.out) (HW2.out.fwd HB6.out) HJ6.out.ne hW.mv hW.bel); have HV1 := Aside0.mk (WrS.here hW); have t2b : w7.cell? ⟨gt, 2, none⟩ = some (.slice B2 y.f2.length b2) := (blk_cell ((off_keep hW.mv HO1.out (Nat.lt_of_lt_of_le (blk_lt HKT.out) HB6.out.size)).2.trans ((HB6.out.block _ (blk_lt HKT.out)).trans HKT.out)) 2).trans rfl; clear hW) | (go_at_call 86; ((with_reducible refine (keepF_calls _ w g2 s2 sb (nn : Int) a2 d2 _ k B2 b2 y.f2 HV2.out (HJ7.out.swap.hok HV1.out) (off_in HV2.out HB2.out.1) HB2.out.2 HSB.out).mono ?_)); rintro e7 w8 ⟨rfl, v8, u8, hW⟩; have HJ8 := Aside0.mk ((HJ7.out.swap.wrote HV2.out HV1.out hW).swap); clear hW))
          go_roundg gl
          case measure => omega
          case rel => exact ⟨_, _, _, _, sa, sb, HJ8, HL⟩
        · have e2 : (y.f0 == 0) = false := beq_eq_false_iff_ne.mpr hy0
          rw [if_neg (fun h => hy0 h.2), if_pos hx0] at hS
          injection hS with hS
          subst hS
          have q1 := HJ5.out.swap.cutc.1
          have q2 := HJ5.out.swap.cutc.2
          have HC6 := Aside0.mk ((HJ5.out.swap.setcut (wrap64 (s2.cut + (nn : Int)))).swap)
          clear hx0 hy0
          go_wp2
          go_roundg gl
          case measure => omega
          case rel => exact ⟨_, _, _, _, _, _, HC6, HL⟩
      · have e1 : (x.f0 == 0) = false := beq_eq_false_iff_ne.mpr hx0
        rw [if_neg (fun h => hx0 h.1), if_neg hx0] at hS
        by_cases hy0 : y.f0 = 0
        · have e2 : (y.f0 == 0) = true := beq_iff_eq.mpr hy0
          rw [if_pos hy0] at hS
          injection hS with hS
          subst hS
          have q1 := HJ5.out.cutc.1
          have q2 := HJ5.out.cutc.2
          have HC6 := Aside0.mk ((HJ5.out.setcut (wrap64 (s1.cut + (nn : Int)))))
          clear hx0 hy0
          go_wp2
          go_roundg gl
          case measure => omega
          case rel => exact ⟨_, _, _, _, _, _, HC6, HL⟩
        · have e2 : (y.f0 == 0) = false := beq_eq_false_iff_ne.mpr hy0
          rw [if_neg hy0] at hS
          injection hS with hS
          subst hS
          clear hx0 hy0
          go_wp2
          go_roundg gl
          case measure => omega
          case rel => exact ⟨_, _, _, _, _, _, HJ5, HL⟩
end Go.Proofs.Ytdgemabmmomebaa.PDelta
end

/- Two sorted lists, merged: what comes of it is sorted, and tells of each name what the two lists tell of it. -/
import Derived.Test.YtdgemabmmomebaaAttrPure2
namespace Go.Proofs.Ytdgemabmmomebaa.PAttr
open Go.RowKit Go.Proofs.YtdgemabmmomebaaW.PrintWords Go.Proofs.YtdgemabmmomebaaW.PrintLast Go.Proofs.YtdgemabmmomebaaW.PrintMore
set_option linter.unusedVariables false

abbrev Bs := List UInt8
/-- What a list tells of a name. -/
def look : List S38 → Bs → Option Bs
  | [], _ => none
  | x :: l, n => if x.f0.toList = n then some x.f1.toList else look l n
theorem look_none {l : List S38} {n : Bs} (h : ∀ x ∈ l, x.f0.toList ≠ n) : look l n = none := by
  induction l with
  | nil => rfl
  | cons x l ih => rw [look, if_neg (h x List.mem_cons_self), ih (fun y hy => h y (List.mem_cons_of_mem _ hy))]
theorem look_above {l : List S38} {n : Bs} (h : ∀ x ∈ l, Op.bytesLess n x.f0.toList = true) : look l n = none :=
  look_none (fun x hx e => by have := h x hx; rw [e, Ord.less_irrefl] at this; cases this)
theorem look_mem {l : List S38} {x : S38} (hs : Srt l) (h : x ∈ l) : look l x.f0.toList = some x.f1.toList := by
  induction l with
  | nil => cases h
  | cons y l ih =>
    obtain ⟨h1, h2⟩ := List.pairwise_cons.1 hs
    rcases List.mem_cons.1 h with rfl | h
    · rw [look, if_pos rfl]
    · rw [look, if_neg (fun e => by have := h1 x h; unfold ltS at this; rw [e, Ord.less_irrefl] at this; cases this), ih h2 h]
theorem look_some {l : List S38} {n v : Bs} (h : look l n = some v) : ∃ x ∈ l, x.f0.toList = n ∧ x.f1.toList = v := by
  induction l with
  | nil => cases h
  | cons y l ih =>
    rw [look] at h
    by_cases e : y.f0.toList = n
    · rw [if_pos e] at h
      exact ⟨y, List.mem_cons_self, e, Option.some.inj h⟩
    · rw [if_neg e] at h
      obtain ⟨x, hx, h1⟩ := ih h
      exact ⟨x, List.mem_cons_of_mem _ hx, h1⟩

theorem s38_ext {x y : S38} (h0 : x.f0.toList = y.f0.toList) (h1 : x.f1.toList = y.f1.toList) : x = y := by
  cases x; cases y
  cases ba_ext h0
  cases ba_ext h1
  rfl
/-- Sorted lists that tell the same are one list. -/
theorem look_ext {l l' : List S38} (h : Srt l) (h' : Srt l') (e : ∀ n, look l n = look l' n) : l = l' := by
  induction l generalizing l' with
  | nil =>
    cases l' with
    | nil => rfl
    | cons y t => have := e y.f0.toList; rw [look_mem h' List.mem_cons_self] at this; cases this
  | cons x t ih =>
    cases l' with
    | nil => have := e x.f0.toList; rw [look_mem h List.mem_cons_self] at this; cases this
    | cons y t' =>
      obtain ⟨h1, h2⟩ := List.pairwise_cons.1 h
      obtain ⟨h1', h2'⟩ := List.pairwise_cons.1 h'
      have hxy : x.f0.toList = y.f0.toList := by
        refine Ord.less_total ?_ ?_
        · cases hl : Op.bytesLess x.f0.toList y.f0.toList with
          | false => rfl
          | true =>
            have := e x.f0.toList
            rw [look_mem h List.mem_cons_self, look_above (l := y :: t') (fun z hz => by rcases List.mem_cons.1 hz with rfl | hz; exact hl; exact Ord.less_trans hl (h1' z hz))] at this
            cases this
        · cases hl : Op.bytesLess y.f0.toList x.f0.toList with
          | false => rfl
          | true =>
            have := e y.f0.toList
            rw [look_mem h' List.mem_cons_self, look_above (l := x :: t) (fun z hz => by rcases List.mem_cons.1 hz with rfl | hz; exact hl; exact Ord.less_trans hl (h1 z hz))] at this
            cases this
      have hv : x.f1.toList = y.f1.toList := by
        have := e x.f0.toList
        rw [look_mem h List.mem_cons_self, hxy, look_mem h' List.mem_cons_self] at this
        exact Option.some.inj this
      rw [s38_ext hxy hv]
      congr 1
      refine ih h2 h2' (fun n => ?_)
      by_cases hn : x.f0.toList = n
      · rw [look_above (l := t) (fun z hz => by rw [← hn]; exact h1 z hz), look_above (l := t') (fun z hz => by rw [← hn, hxy]; exact h1' z hz)]
      · have := e n
        rw [look, look, if_neg hn, if_neg (by rw [← hxy]; exact hn)] at this
        exact this

/-- The merge itself: E tells what is added for a pair. -/
def mrg (E : S38 → S38 → Option S38) : List S38 → List S38 → List S38
  | [], [] => []
  | x :: a, [] => (E x nil38).toList ++ mrg E a []
  | [], y :: b => (E nil38 y).toList ++ mrg E [] b
  | x :: a, y :: b => if ltS x y = true then (E x nil38).toList ++ mrg E a (y :: b) else if ltS y x = true then (E nil38 y).toList ++ mrg E (x :: a) b else (E x y).toList ++ mrg E a b
termination_by a b => a.length + b.length
theorem bothL_mrg (V : List S38 → S38 → S38 → List S38) (E : S38 → S38 → Option S38) (h : ∀ o x y, V o x y = o ++ (E x y).toList) : ∀ (a b o : List S38), bothL V o a b = o ++ mrg E a b := by
  intro a b
  induction a, b using mrg.induct with
  | case1 => intro o; rw [bothL, mrg, List.append_nil]
  | case2 x a ih => intro o; rw [bothL, mrg, ih, h]; exact List.append_assoc _ _ _
  | case3 y b ih => intro o; rw [bothL, mrg, ih, h]; exact List.append_assoc _ _ _
  | case4 x a y b hlt ih => intro o; rw [bothL, mrg, if_pos hlt, if_pos hlt, ih, h]; exact List.append_assoc _ _ _
  | case5 x a y b hlt hlt' ih => intro o; rw [bothL, mrg, if_neg hlt, if_neg hlt, if_pos hlt', if_pos hlt', ih, h]; exact List.append_assoc _ _ _
  | case6 x a y b hlt hlt' ih => intro o; rw [bothL, mrg, if_neg hlt, if_neg hlt, if_neg hlt', if_neg hlt', ih, h]; exact List.append_assoc _ _ _

/-- E as a law on what the two lists tell. -/
structure Tells (E : S38 → S38 → Option S38) (F : Option Bs → Option Bs → Option Bs) : Prop where
  nil : F none none = none
  left : ∀ x, x.f0.toList ≠ [] → (∀ z, E x nil38 = some z → z.f0 = x.f0) ∧ (E x nil38).map (·.f1.toList) = F (some x.f1.toList) none
  right : ∀ y, y.f0.toList ≠ [] → (∀ z, E nil38 y = some z → z.f0 = y.f0) ∧ (E nil38 y).map (·.f1.toList) = F none (some y.f1.toList)
  mid : ∀ x y, x.f0.toList = y.f0.toList → x.f0.toList ≠ [] → (∀ z, E x y = some z → z.f0 = x.f0) ∧ (E x y).map (·.f1.toList) = F (some x.f1.toList) (some y.f1.toList)
def Named (l : List S38) : Prop := ∀ x ∈ l, x.f0.toList ≠ []

theorem look_opt {o : Option S38} {l : List S38} {n : Bs} {nm : ByteArray} {v : Option Bs} (h : ∀ z, o = some z → z.f0 = nm) (hv : o.map (·.f1.toList) = v) (hl : look l nm.toList = Option.none) :
    look (o.toList ++ l) n = if nm.toList = n then v else look l n := by
  cases o with
  | none =>
    have : v = Option.none := hv.symm
    subst this
    by_cases e : nm.toList = n
    · rw [if_pos e]; show look l n = _; rw [← e]; exact hl
    · rw [if_neg e]; rfl
  | some z =>
    have hz := h z rfl
    have : v = some z.f1.toList := hv.symm
    subst this
    show look (z :: l) n = _
    rw [look, hz]

theorem mrg_spec {E : S38 → S38 → Option S38} {F : Option Bs → Option Bs → Option Bs} (T : Tells E F) : ∀ (a b : List S38), Srt a → Srt b → Named a → Named b →
    Srt (mrg E a b) ∧ (∀ n, look (mrg E a b) n = F (look a n) (look b n)) ∧ (∀ z ∈ mrg E a b, (∃ x ∈ a, z.f0 = x.f0) ∨ (∃ y ∈ b, z.f0 = y.f0)) := by
  -- one step: a name below all others
  have step : ∀ (o : Option S38) (l : List S38) (nm : ByteArray) (v : Option Bs), (∀ z, o = some z → z.f0 = nm) → (∀ z ∈ l, Op.bytesLess nm.toList z.f0.toList = true) → Srt l → Srt (o.toList ++ l) := by
    intro o l nm v h hl hs
    cases o with
    | none => exact hs
    | some z =>
      refine List.Pairwise.cons (fun y hy => ?_) hs
      show Op.bytesLess z.f0.toList _ = true
      rw [h z rfl]
      exact hl y hy
  intro a b
  induction a, b using mrg.induct with
  | case1 => intro _ _ _ _; rw [mrg]; exact ⟨List.Pairwise.nil, fun n => T.nil.symm, fun z hz => by cases hz⟩
  | case2 x a ih =>
    intro ha hb na nb
    obtain ⟨h1, h2⟩ := List.pairwise_cons.1 ha
    obtain ⟨i1, i2, i3⟩ := ih h2 hb (fun z hz => na z (List.mem_cons_of_mem _ hz)) nb
    obtain ⟨e1, e2⟩ := T.left x (na x List.mem_cons_self)
    have hab : ∀ z ∈ mrg E a [], Op.bytesLess x.f0.toList z.f0.toList = true := fun z hz => by
      rcases i3 z hz with ⟨u, hu, e⟩ | ⟨u, hu, e⟩
      · rw [e]; exact h1 u hu
      · cases hu
    rw [mrg]
    refine ⟨step _ _ x.f0 none e1 hab i1, fun n => ?_, fun z hz => ?_⟩
    · rw [look_opt e1 e2 (look_above hab), i2 n]
      by_cases e : x.f0.toList = n
      · rw [if_pos e, show look (x :: a) n = some x.f1.toList by rw [look, if_pos e]]; rfl
      · rw [if_neg e, show look (x :: a) n = look a n by rw [look, if_neg e]]
    · rcases List.mem_append.1 hz with hz | hz
      · exact .inl ⟨x, List.mem_cons_self, e1 z (by simpa using hz)⟩
      · rcases i3 z hz with ⟨u, hu, e⟩ | h
        · exact .inl ⟨u, List.mem_cons_of_mem _ hu, e⟩
        · exact .inr h
  | case3 y b ih =>
    intro ha hb na nb
    obtain ⟨h1, h2⟩ := List.pairwise_cons.1 hb
    obtain ⟨i1, i2, i3⟩ := ih ha h2 na (fun z hz => nb z (List.mem_cons_of_mem _ hz))
    obtain ⟨e1, e2⟩ := T.right y (nb y List.mem_cons_self)
    have hab : ∀ z ∈ mrg E [] b, Op.bytesLess y.f0.toList z.f0.toList = true := fun z hz => by
      rcases i3 z hz with ⟨u, hu, e⟩ | ⟨u, hu, e⟩
      · cases hu
      · rw [e]; exact h1 u hu
    rw [mrg]
    refine ⟨step _ _ y.f0 none e1 hab i1, fun n => ?_, fun z hz => ?_⟩
    · rw [look_opt e1 e2 (look_above hab), i2 n]
      by_cases e : y.f0.toList = n
      · rw [if_pos e, show look (y :: b) n = some y.f1.toList by rw [look, if_pos e]]; rfl
      · rw [if_neg e, show look (y :: b) n = look b n by rw [look, if_neg e]]
    · rcases List.mem_append.1 hz with hz | hz
      · exact .inr ⟨y, List.mem_cons_self, e1 z (by simpa using hz)⟩
      · rcases i3 z hz with h | ⟨u, hu, e⟩
        · exact .inl h
        · exact .inr ⟨u, List.mem_cons_of_mem _ hu, e⟩
  | case4 x a y b hlt ih =>
    intro ha hb na nb
    obtain ⟨h1, h2⟩ := List.pairwise_cons.1 ha
    obtain ⟨h1', h2'⟩ := List.pairwise_cons.1 hb
    obtain ⟨i1, i2, i3⟩ := ih h2 hb (fun z hz => na z (List.mem_cons_of_mem _ hz)) nb
    obtain ⟨e1, e2⟩ := T.left x (na x List.mem_cons_self)
    have hyb : ∀ z ∈ y :: b, Op.bytesLess x.f0.toList z.f0.toList = true := fun z hz => by
      rcases List.mem_cons.1 hz with rfl | hz
      · exact hlt
      · exact Ord.less_trans hlt (h1' z hz)
    have hab : ∀ z ∈ mrg E a (y :: b), Op.bytesLess x.f0.toList z.f0.toList = true := fun z hz => by
      rcases i3 z hz with ⟨u, hu, e⟩ | ⟨u, hu, e⟩
      · rw [e]; exact h1 u hu
      · rw [e]; exact hyb u hu
    rw [mrg, if_pos hlt]
    refine ⟨step _ _ x.f0 none e1 hab i1, fun n => ?_, fun z hz => ?_⟩
    · rw [look_opt e1 e2 (look_above hab), i2 n]
      by_cases e : x.f0.toList = n
      · rw [if_pos e]
        rw [show look (x :: a) n = some x.f1.toList by rw [look, if_pos e], look_above (l := y :: b) (by rw [← e]; exact hyb)]
      · rw [if_neg e]
        rw [show look (x :: a) n = look a n by rw [look, if_neg e]]
    · rcases List.mem_append.1 hz with hz | hz
      · exact .inl ⟨x, List.mem_cons_self, e1 z (by simpa using hz)⟩
      · rcases i3 z hz with ⟨u, hu, e⟩ | h
        · exact .inl ⟨u, List.mem_cons_of_mem _ hu, e⟩
        · exact .inr h
  | case5 x a y b hlt hlt' ih =>
    intro ha hb na nb
    obtain ⟨h1, h2⟩ := List.pairwise_cons.1 ha
    obtain ⟨h1', h2'⟩ := List.pairwise_cons.1 hb
    obtain ⟨i1, i2, i3⟩ := ih ha h2' na (fun z hz => nb z (List.mem_cons_of_mem _ hz))
    obtain ⟨e1, e2⟩ := T.right y (nb y List.mem_cons_self)
    have hxa : ∀ z ∈ x :: a, Op.bytesLess y.f0.toList z.f0.toList = true := fun z hz => by
      rcases List.mem_cons.1 hz with rfl | hz
      · exact hlt'
      · exact Ord.less_trans hlt' (h1 z hz)
    have hab : ∀ z ∈ mrg E (x :: a) b, Op.bytesLess y.f0.toList z.f0.toList = true := fun z hz => by
      rcases i3 z hz with ⟨u, hu, e⟩ | ⟨u, hu, e⟩
      · rw [e]; exact hxa u hu
      · rw [e]; exact h1' u hu
    rw [mrg, if_neg hlt, if_pos hlt']
    refine ⟨step _ _ y.f0 none e1 hab i1, fun n => ?_, fun z hz => ?_⟩
    · rw [look_opt e1 e2 (look_above hab), i2 n]
      by_cases e : y.f0.toList = n
      · rw [if_pos e]
        rw [show look (y :: b) n = some y.f1.toList by rw [look, if_pos e], look_above (l := x :: a) (by rw [← e]; exact hxa)]
      · rw [if_neg e]
        rw [show look (y :: b) n = look b n by rw [look, if_neg e]]
    · rcases List.mem_append.1 hz with hz | hz
      · exact .inr ⟨y, List.mem_cons_self, e1 z (by simpa using hz)⟩
      · rcases i3 z hz with h | ⟨u, hu, e⟩
        · exact .inl h
        · exact .inr ⟨u, List.mem_cons_of_mem _ hu, e⟩
  | case6 x a y b hlt hlt' ih =>
    intro ha hb na nb
    obtain ⟨h1, h2⟩ := List.pairwise_cons.1 ha
    obtain ⟨h1', h2'⟩ := List.pairwise_cons.1 hb
    obtain ⟨i1, i2, i3⟩ := ih h2 h2' (fun z hz => na z (List.mem_cons_of_mem _ hz)) (fun z hz => nb z (List.mem_cons_of_mem _ hz))
    have hxy : x.f0.toList = y.f0.toList := Ord.less_total (Bool.eq_false_iff.2 hlt) (Bool.eq_false_iff.2 hlt')
    obtain ⟨e1, e2⟩ := T.mid x y hxy (na x List.mem_cons_self)
    have hab : ∀ z ∈ mrg E a b, Op.bytesLess x.f0.toList z.f0.toList = true := fun z hz => by
      rcases i3 z hz with ⟨u, hu, e⟩ | ⟨u, hu, e⟩
      · rw [e]; exact h1 u hu
      · rw [e, hxy]; exact h1' u hu
    rw [mrg, if_neg hlt, if_neg hlt']
    refine ⟨step _ _ x.f0 none e1 hab i1, fun n => ?_, fun z hz => ?_⟩
    · rw [look_opt e1 e2 (look_above hab), i2 n, look, look, ← hxy]
      by_cases e : x.f0.toList = n
      · rw [if_pos e, if_pos e, if_pos e]
      · rw [if_neg e, if_neg e, if_neg e]
    · rcases List.mem_append.1 hz with hz | hz
      · exact .inl ⟨x, List.mem_cons_self, e1 z (by simpa using hz)⟩
      · rcases i3 z hz with ⟨u, hu, e⟩ | ⟨u, hu, e⟩
        · exact .inl ⟨u, List.mem_cons_of_mem _ hu, e⟩
        · exact .inr ⟨u, List.mem_cons_of_mem _ hu, e⟩
theorem mrg_len (E : S38 → S38 → Option S38) : ∀ a b : List S38, (mrg E a b).length ≤ a.length + b.length := by
  have o1 : ∀ o : Option S38, o.toList.length ≤ 1 := fun o => by cases o <;> simp
  intro a b
  induction a, b using mrg.induct with
  | case1 => rw [mrg]; simp
  | case2 x a ih => rw [mrg, List.length_append]; have := o1 (E x nil38); simp only [List.length_cons, List.length_nil] at *; omega
  | case3 y b ih => rw [mrg, List.length_append]; have := o1 (E nil38 y); simp only [List.length_cons, List.length_nil] at *; omega
  | case4 x a y b hlt ih => rw [mrg, if_pos hlt, List.length_append]; have := o1 (E x nil38); simp only [List.length_cons, List.length_nil] at *; omega
  | case5 x a y b hlt hlt' ih => rw [mrg, if_neg hlt, if_pos hlt', List.length_append]; have := o1 (E nil38 y); simp only [List.length_cons, List.length_nil] at *; omega
  | case6 x a y b hlt hlt' ih => rw [mrg, if_neg hlt, if_neg hlt', List.length_append]; have := o1 (E x y); simp only [List.length_cons] at *; omega
end Go.Proofs.Ytdgemabmmomebaa.PAttr

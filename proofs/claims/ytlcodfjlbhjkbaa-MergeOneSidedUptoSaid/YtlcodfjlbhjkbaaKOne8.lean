/- MergeOneSided answers true, for flows of bulk at most 1048576. -/
import Derived.Test.YtlcodfjlbhjkbaaKOne7
import Derived.Test.YtlcodfjlbhjkbaaRows
import Derived.Deep.Slices
import Derived.ChangeArms
import Derived.WalkKit
import Derived.ProofKit
import Derived.OpenShut
import Derived.ShutString
import Derived.ChangeOld
import Derived.Below
import Derived.SizedLaws
import Derived.JoinedCond
set_option linter.unusedVariables false
set_option linter.unusedSimpArgs false
section
namespace Go.Proofs.Ytlcodfjlbhjkbaa.Arg
open Go.RowKit Go.Deep Go.ChangeShapes Go.WideShapes Go.Proofs.YtlcodfjlbhjkbaaW.PrintWords
def Opens {α : Type} (P : Program) (t : TypeId) (d : Kd α) (m : α → Nat) (ok : α → Prop) : Prop :=
 ∀ (H : Type) (enc : TypeId × Value → H) (w : World) (base : Nat) (spare : Nat → Bool) (held : Bool) (fuel : Nat) (cs : List Value) (x : DataW H × List MemPlace),
  DataW.trod enc P w base spare held fuel t cs = some x → ∃ y : α, d.K w y cs ∧ ok y ∧ m y ≤ Rows.uptoBulk x.1
theorem opens_int {P : Program} {t : TypeId} {k : IntKind} (ht : P.underlying t = some (.int k)) : Opens P t (Kd.int k) (fun _ => 1) (fun n => (Lit.int k n).wf = true) := by
 intro H enc w base spare held fuel cs x h
 obtain ⟨n, rfl, rfl, hw⟩ := DataW.trod_int ht h
 exact ⟨n, rfl, hw, by simp [Rows.uptoBulk]⟩
theorem opens_string {P : Program} {t : TypeId} (ht : P.underlying t = some .string) : Opens P t Kd.string (fun s => s.size + 1) (fun _ => True) := by
 intro H enc w base spare held fuel cs x h
 obtain ⟨s, rfl, rfl, _⟩ := DataW.trod_string ht h
 exact ⟨s, rfl, trivial, by simp [Rows.uptoBulk]⟩
theorem all_append {H : Type} (l r : List (DataW H)) : Rows.uptoBulkAll (l ++ r) = Rows.uptoBulkAll l + Rows.uptoBulkAll r := by
 induction l with
 | nil => simp [Rows.uptoBulkAll]
 | cons x l ih => simp only [List.cons_append, Rows.uptoBulkAll, ih]; omega
theorem all_range {H : Type} (D : Nat → DataW H) (f : Nat → Nat) : ∀ n, (∀ i, i < n → f i ≤ Rows.uptoBulk (D i)) → ((List.range n).map f).sum ≤ Rows.uptoBulkAll ((List.range n).map D) := by
 intro n
 induction n with
 | zero => intro _; simp [Rows.uptoBulkAll]
 | succ n ih =>
  intro h
  rw [List.range_succ, List.map_append, List.map_append, List.sum_append, all_append]
  have := ih (fun i hi => h i (by omega))
  have := h n (by omega)
  simp [Rows.uptoBulkAll]
  omega
theorem opens_slice {α : Type} {P : Program} {t e : TypeId} {d : Kd α} {m : α → Nat} {ok : α → Prop} (ht : P.underlying t = some (.slice e)) (hd : Opens P e d m ok) (hC : P.cellsOf e = d.sz) :
  Opens P t (Kd.slice e d) (fun xs => (xs.map m).sum + 1) (fun xs => ∀ x ∈ xs, ok x) := by
 intro H enc w base spare held fuel cs x h
 rcases open_slice ht h with ⟨rfl, rfl⟩ | ⟨a, len, cap, mm, n, D, Pl, rfl, _, hl, hm, hmm, rfl, hi⟩
 ·exact ⟨[], ⟨none, 0, rfl, Nat.le_refl _, rfl, by simp, fun h => absurd h (Nat.lt_irrefl 0)⟩, (fun _ h => by cases h), by simp [Rows.uptoBulk]⟩
 ·have hle : len ≤ mm := by rw [hmm]; split <;> omega
  have key : ∀ i, i < len → ∃ y : α, (∃ cs', w.cells? base (a.add (i * P.cellsOf e)) (P.cellsOf e) = some cs' ∧ d.K w y cs') ∧ ok y ∧ m y ≤ Rows.uptoBulk (D i) := by
   intro i hlt
   obtain ⟨cs', hc, htr⟩ := hi i (by omega)
   obtain ⟨y, hy, hok, hb⟩ := hd H enc w base spare held n cs' _ htr
   exact ⟨y, ⟨cs', hc, hy⟩, hok, hb⟩
  obtain ⟨Y, hY⟩ : ∃ Y : (i : Nat) → i < len → α, ∀ i hlt, (∃ cs', w.cells? base (a.add (i * P.cellsOf e)) (P.cellsOf e) = some cs' ∧ d.K w (Y i hlt) cs') ∧ ok (Y i hlt) ∧ m (Y i hlt) ≤ Rows.uptoBulk (D i) :=
   ⟨fun i hlt => Classical.choose (key i hlt), fun i hlt => Classical.choose_spec (key i hlt)⟩
  have hxs : (List.ofFn (fun i : Fin len => Y i.1 i.2)).length = len := by simp
  refine ⟨List.ofFn (fun i : Fin len => Y i.1 i.2), ⟨some a, cap, by rw [hxs], by rw [hxs]; exact hl, hxs.trans hxs.symm ▸ rfl, ?_, ?_⟩, ?_, ?_⟩
  ·rw [hxs]; unfold maxLen at hm; omega
  ·intro _
   refine ⟨a, rfl, fun j p hj => ?_⟩
   obtain ⟨hjl, hp⟩ := List.getElem?_eq_some_iff.1 hj
   have hjl' : j < len := by simpa using hjl
   rw [List.getElem_ofFn] at hp
   obtain ⟨⟨cs', hc, hK⟩, _, _⟩ := hY j hjl'
   rw [← hp]
   refine ⟨cs', d.K_len hK, hK, fun i u hu => ?_⟩
   obtain ⟨_, hcl, hat⟩ := World.cells?_some hc
   have hil : i < P.cellsOf e := by rw [← hcl]; exact (List.getElem?_eq_some_iff.1 hu).1
   have := hat i hil
   rw [← hC, ← Go.Deep.add_add, this, hu]
  ·intro x hx
   obtain ⟨i, hi'⟩ := List.mem_ofFn.1 hx
   rw [← hi']
   exact (hY i.1 i.2).2.1
  ·have hsum : ((List.ofFn (fun i : Fin len => Y i.1 i.2)).map m).sum ≤ Rows.uptoBulkAll ((List.range len).map D) := by
    have e : (List.ofFn (fun i : Fin len => Y i.1 i.2)).map m = (List.range len).map (fun i => if h : i < len then m (Y i h) else 0) := by
     apply List.ext_getElem
     ·simp
     ·intro i h1 h2
      have : i < len := by simpa using h2
      simp [this]
    rw [e]
    refine all_range D _ len (fun i hlt => ?_)
    simp only [hlt, dite_true]
    exact (hY i hlt).2.2
   simp only [Rows.uptoBulk]
   omega
def OpensFs {α : Type} (P : Program) (fs : List Field) (off : Nat) (d : Kd α) (m : α → Nat) (ok : α → Prop) : Prop :=
 ∀ (H : Type) (enc : TypeId × Value → H) (w : World) (base : Nat) (spare : Nat → Bool) (held : Bool) (fuel : Nat) (cs : List Value) (ys : List (DataW H × List MemPlace)),
  cs.length = off + d.sz → ys.length = fs.length → (∀ (i : Nat) (f : Field), fs[i]? = some f → DataW.trod enc P w base spare held fuel f.type ((cs.drop f.offset).take (P.cellsOf f.type)) = ys[i]?) →
   ∃ y : α, d.K w y (cs.drop off) ∧ ok y ∧ m y ≤ Rows.uptoBulkAll (ys.map (·.1))
theorem opens_one {α : Type} {P : Program} {f : Field} {off : Nat} {d : Kd α} {m : α → Nat} {ok : α → Prop} (h : Opens P f.type d m ok) (hC : P.cellsOf f.type = d.sz) (ho : f.offset = off) : OpensFs P [f] off d m ok := by
 intro H enc w base spare held fuel cs ys hl hy ht
 match ys, hy with
 | [z], _ =>
  have h1 := ht 0 f rfl
  rw [ho, hC, List.take_of_length_le (by rw [List.length_drop]; omega)] at h1
  obtain ⟨y, hK, hok, hb⟩ := h H enc w base spare held fuel _ z h1
  exact ⟨y, hK, hok, by simp [Rows.uptoBulkAll]; exact hb⟩
theorem opens_cons {α β : Type} {P : Program} {f : Field} {fs : List Field} {off : Nat} {d : Kd α} {d' : Kd β} {m : α → Nat} {m' : β → Nat} {ok : α → Prop} {ok' : β → Prop} (h : Opens P f.type d m ok) (hC : P.cellsOf f.type = d.sz) (ho : f.offset = off)
  (hs : OpensFs P fs (off + d.sz) d' m' ok') : OpensFs P (f :: fs) off (Kd.pair d d') (fun p => m p.1 + m' p.2) (fun p => ok p.1 ∧ ok' p.2) := by
 intro H enc w base spare held fuel cs ys hl hy ht
 have hsz : (Kd.pair d d').sz = d.sz + d'.sz := rfl
 match ys, hy with
 | z :: ys, hy =>
  have h1 := ht 0 f rfl
  rw [ho, hC] at h1
  obtain ⟨y, hK, hok, hb⟩ := h H enc w base spare held fuel _ z h1
  obtain ⟨y', hK', hok', hb'⟩ := hs H enc w base spare held fuel cs ys (by omega) (by simpa using hy) (fun i g hi => by have := ht (i + 1) g (by simpa using hi); simpa using this)
  refine ⟨(y, y'), ⟨_, _, ?_, hK, hK'⟩, ⟨hok, hok'⟩, by simp only [List.map_cons, Rows.uptoBulkAll]; omega⟩
  rw [← List.drop_drop, List.take_append_drop]
theorem opens_struct {α : Type} {P : Program} {t : TypeId} {fs : Array Field} {d : Kd α} {m : α → Nat} {ok : α → Prop} (ht : P.underlying t = some (.struct fs)) (hC : P.cellsOf t = d.sz) (h : OpensFs P fs.toList 0 d m ok) : Opens P t d (fun y => m y + 1) ok := by
 intro H enc w base spare held fuel cs x hx
 obtain ⟨ys, n, _, rfl, hl, hy, hf⟩ := DataW.trod_struct ht hx
 obtain ⟨y, hK, hok, hb⟩ := h H enc w base spare held n cs ys (by omega) (by simpa using hy) (fun i f hi => hf i f (by simpa using hi))
 exact ⟨y, by simpa using hK, hok, by simp only [Rows.uptoBulk]; omega⟩
theorem opens_iso {α β : Type} {P : Program} {t : TypeId} {d : Kd α} {m : α → Nat} {ok : α → Prop} (h : Opens P t d m ok) (f : β → α) (g : α → β) (hg : ∀ y, f (g y) = y) : Opens P t (Kd.iso d f) (fun x => m (f x)) (fun x => ok (f x)) := by
 intro H enc w base spare held fuel cs x hx
 obtain ⟨y, hK, hok, hb⟩ := h H enc w base spare held fuel cs x hx
 exact ⟨g y, by show d.K w (f (g y)) cs; rw [hg]; exact hK, by show ok (f (g y)); rw [hg]; exact hok, by show m (f (g y)) ≤ _; rw [hg]; exact hb⟩
theorem opens_mono {α : Type} {P : Program} {t : TypeId} {d : Kd α} {m m' : α → Nat} {ok ok' : α → Prop} (h : Opens P t d m ok) (hm : ∀ x, m' x ≤ m x) (ho : ∀ x, ok x → ok' x) : Opens P t d m' ok' := by
 intro H enc w base spare held fuel cs x hx
 obtain ⟨y, hK, hok, hb⟩ := h H enc w base spare held fuel cs x hx
 exact ⟨y, hK, ho y hok, Nat.le_trans (hm y) hb⟩
theorem open_arg {α : Type} {P : Program} {t e : TypeId} {d : Kd α} {m : α → Nat} {ok : α → Prop} (ht : P.underlying t = some (.slice e)) (hd : Opens P e d m ok) (hC : P.cellsOf e = d.sz) {H : Type} {enc : TypeId × Value → H} {w : World} {base : Nat} {spare : Nat → Bool} {held : Bool}
  {a : Option Addr} {len cap : Nat} {D : DataW H} {ps : List MemPlace} (h : DataW.Trod enc P w base spare held t (.slice a len cap) D ps) :
  ∃ xs : List α, len = xs.length ∧ d.C w a xs.length xs ∧ xs.length ≤ cap ∧ (∀ x ∈ xs, ok x) ∧ (xs.map m).sum + 1 ≤ Rows.uptoBulk D := by
 obtain ⟨fuel, hf⟩ := h
 obtain ⟨xs, ⟨A, c, hcs, hl, hc⟩, hok, hb⟩ := opens_slice ht hd hC H enc w base spare held fuel _ _ hf
 simp [Value.cells] at hcs
 obtain ⟨rfl, rfl, rfl⟩ := hcs
 exact ⟨xs, rfl, hc, hl, hok, hb⟩
theorem sum_mem {α : Type} (m : α → Nat) {l : List α} {x : α} (h : x ∈ l) : m x ≤ (l.map m).sum := by
 induction l with
 | nil => cases h
 | cons y l ih =>
  simp only [List.map_cons, List.sum_cons]
  rcases List.mem_cons.1 h with rfl | h
  ·omega
  ·have := ih h; omega
theorem sum_len {α : Type} (m : α → Nat) {l : List α} (h : ∀ x ∈ l, 1 ≤ m x) : l.length ≤ (l.map m).sum := by
 induction l with
 | nil => simp
 | cons y l ih =>
  simp only [List.map_cons, List.sum_cons, List.length_cons]
  have := h y List.mem_cons_self
  have := ih (fun x hx => h x (List.mem_cons_of_mem _ hx))
  omega
theorem part_le {H : Type} {d : DataW H} {l : List (DataW H)} (h : d ∈ l) : Rows.uptoBulk d ≤ Rows.uptoBulkAll l := by
 induction l with
 | nil => cases h
 | cons x r ih =>
  simp only [Rows.uptoBulkAll]
  cases List.mem_cons.1 h with
  | inl e => subst e; omega
  | inr e => have := ih e; omega
theorem bound {H : Type} {l : List (DataW H)} (hk : Rows.uptoSmall H l = true) : Rows.uptoBulkAll l ≤ 1048576 := of_decide_eq_true hk
end Go.Proofs.Ytlcodfjlbhjkbaa.Arg
end
section
namespace Go.Proofs.Ytlcodfjlbhjkbaa.PDelta
open Go.RowKit Go.Proofs.Ytlcodfjlbhjkbaa.Arg Go.Proofs.YtlcodfjlbhjkbaaW.PrintWords
def m91 (x : S91) : Nat := x.f0.size + 1 + (x.f1.size + 1) + 1
theorem opens91 : Opens Try.prog 91 k91 m91 (fun _ => True) :=
 opens_mono (opens_iso (opens_struct Try.underlying91 (by kernel_rfl) (opens_cons (opens_string Try.underlying9) (by kernel_rfl) rfl (opens_one (opens_string Try.underlying9) (by kernel_rfl) rfl))) (fun x : S91 => (x.f0, x.f1)) (fun p => ⟨p.1, p.2⟩) (fun _ => rfl))
  (fun x => Nat.le_refl _) (fun _ _ => trivial)
def m26 (x : S26) : Nat := 1 + (1 + ((x.f2.map m91).sum + 1)) + 1
theorem opens26 : Opens Try.prog 26 k26 m26 (fun _ => True) :=
 opens_mono (opens_iso (opens_struct Try.underlying26 (by kernel_rfl) (opens_cons (opens_int Try.underlying3) (by kernel_rfl) rfl (opens_cons (opens_int Try.underlying3) (by kernel_rfl) rfl (opens_one (opens_slice Try.underlying24 opens91 (by kernel_rfl)) (by kernel_rfl) rfl)))) (fun x : S26 => (x.f0, x.f1, x.f2)) (fun p => ⟨p.1, p.2.1, p.2.2⟩) (fun _ => rfl))
  (fun x => Nat.le_refl _) (fun _ _ => trivial)
theorem small91 {l : List S91} (h : (l.map m91).sum + 1 ≤ 1048576) : Small l ∧ l.length ≤ 1048576 := by
 have h1 := sum_len m91 (l := l) (fun x _ => by unfold m91; omega)
 refine ⟨⟨by omega, fun x hx => ?_⟩, by omega⟩
 have h2 := sum_mem m91 hx
 unfold m91 at h2 h
 constructor <;> omega
theorem fine26 {l : List S26} (h : (l.map m26).sum + 1 ≤ 1048576) (_ : ∀ x ∈ l, True) : FFine l := by
 have h1 := sum_len m26 (l := l) (fun x _ => by unfold m26; omega)
 refine ⟨by omega, fun x hx => ?_⟩
 have h2 := sum_mem m26 hx
 exact small91 (by unfold m26 at h2 h; omega)
end Go.Proofs.Ytlcodfjlbhjkbaa.PDelta
end
section
namespace Go.Proofs.Ytlcodfjlbhjkbaa.PDelta
open Go.RowKit Go.Proofs.YtlcodfjlbhjkbaaW.PrintWords Go.Proofs.YtlcodfjlbhjkbaaW.PrintLast Go.Proofs.YtlcodfjlbhjkbaaW.PrintMore
def OneAt3 (k : Nat) (o a : List S26) (_ : Bool) : Prop := OneAt k o a
theorem one_row (a b : List S26) (s : Bool) (hf : FFine a) (hg : FFine b) : ∃ k, OneAt3 k a b s := one_law a b hf hg
theorem OneAt3.calls (k : Nat) (A0 : Option Addr) (c0 : Nat) (a : List S26) (A1 : Option Addr) (c1 : Nat) (b : List S26) (s : Bool) (_ : Bool) (w : World) (hr0 : Kd.C k26 w A0 a.length a) (hc0 : a.length ≤ c0) (hr1 : Kd.C k26 w A1 b.length b) (hc1 : b.length ≤ c1) (h : OneAt3 k a b s) :
  Calls Try.prog 5 #[.slice A0 a.length c0, .slice A1 b.length c1, .bool s] w fun e w' => e = .returned (.bool true) ∧ Below w.heap.size w w' := oneLaw_calls k A0 c0 a A1 c1 b s w hr0 hc0 hr1 hc1 h
end Go.Proofs.Ytlcodfjlbhjkbaa.PDelta
end
section
namespace Go.Proofs.Ytlcodfjlbhjkbaa.mergeOneSided
open Go.ChangeShapes Go.WideShapes Go.ChangeAt Go.RowKit Go.Proofs.Ytlcodfjlbhjkbaa.Arg Go.Proofs.Ytlcodfjlbhjkbaa.PDelta Go.Proofs.YtlcodfjlbhjkbaaW.PrintWords
open Go.ChangeMaps (open_string shut_string)
theorem own : ownKnob Try.prog.godebug = none := by kernel_rfl
theorem laidOut : laidOutB Try.prog = true := by kernel_rfl
set_option maxRecDepth 100000 in
theorem contract (H : Type) (enc : TypeId × Value → H) (W : World) (base : Nat) (args : Array Value) (ds gs : List (DataW H)) (before : List MemPlace)
  (hval : ∀ (j : Nat) t v, Try.f5.params[j]? = some t → args[j]? = some v → Value.okWide Try.prog W .any base t v)
  (hW : DataW.Whole enc Try.prog Try.f5.params.toList Rows.mergeOneSidedSpec.vars false W args.toList ds gs before) (hk : Rows.uptoSmall H (ds ++ gs) = true) :
  Calls Try.prog 5 args W fun e W' => ∃ v, e = .returned v ∧ Rows.mergeOneSidedSpec.post enc Try.prog Try.f5 false true false false W args v W' := by
 have hW' := hW
 obtain ⟨p, q, hA0, hV, rfl, hfz, hnd⟩ := hW
 have hA : DataW.TrodAll enc Try.prog W 0 (fun _ => true) true Try.f5.params.toList args.toList ds p := hA0
 rw [Try.params5] at hA hval
 obtain ⟨v0, vs0, d0, ds0, p0, q0, hargs, rfl, rfl, h0, r0⟩ := trodAll_cons hA
 obtain ⟨v1, vs1, d1, ds1, p1, q1, rfl, rfl, rfl, h1, r1⟩ := trodAll_cons r0
 obtain ⟨v2, vs2, d2, ds2, p2, q2, rfl, rfl, rfl, h2, r2⟩ := trodAll_cons r1
 obtain ⟨rfl, rfl, rfl⟩ := trodAll_nil r2
 obtain rfl : args = #[v0, v1, v2] := by cases args; simp_all
 obtain ⟨rfl, rfl⟩ := trodVars_none hV
 have hbulk : Rows.uptoBulkAll ([d0, d1, d2] ++ []) ≤ 1048576 := Arg.bound hk
 have hp0 : Rows.uptoBulk d0 ≤ 1048576 := Nat.le_trans (part_le (l := [d0, d1, d2] ++ []) (by simp only [List.append_nil, List.mem_cons, true_or, or_true])) hbulk
 have hp1 : Rows.uptoBulk d1 ≤ 1048576 := Nat.le_trans (part_le (l := [d0, d1, d2] ++ []) (by simp only [List.append_nil, List.mem_cons, true_or, or_true])) hbulk
 have hp2 : Rows.uptoBulk d2 ≤ 1048576 := Nat.le_trans (part_le (l := [d0, d1, d2] ++ []) (by simp only [List.append_nil, List.mem_cons, true_or, or_true])) hbulk
 clear hbulk
 obtain ⟨a0, len0, cap0, rfl⟩ := okWide_slice Try.underlying22 (hval 0 22 v0 rfl rfl)
 have k0 := h0
 have lt0 : ∀ x ∈ p0, x.block < W.heap.size := by obtain ⟨m, hm⟩ := k0; exact DataW.trod_lt m _ _ _ hm
 obtain ⟨l0, rfl, hr0, hc0, ok0, hb0⟩ := open_arg Try.underlying22 opens26 (by kernel_rfl) h0
 have fine0 := fine26 (Nat.le_trans hb0 hp0) ok0
 obtain ⟨a1, len1, cap1, rfl⟩ := okWide_slice Try.underlying22 (hval 1 22 v1 rfl rfl)
 have k1 := h1
 have lt1 : ∀ x ∈ p1, x.block < W.heap.size := by obtain ⟨m, hm⟩ := k1; exact DataW.trod_lt m _ _ _ hm
 obtain ⟨l1, rfl, hr1, hc1, ok1, hb1⟩ := open_arg Try.underlying22 opens26 (by kernel_rfl) h1
 have fine1 := fine26 (Nat.le_trans hb1 hp1) ok1
 obtain ⟨a2, rfl, rfl, rfl⟩ := open_bool Try.underlying4 (hval 2 4 v2 rfl rfl) h2
 obtain ⟨k, hk'⟩ := one_row l0 l1 a2 fine0 fine1
 refine (OneAt3.calls k _ _ l0 _ _ l1 a2 true W hr0 hc0 hr1 hc1 hk').mono fun e W' ⟨he, bel⟩ => ?_
 subst he
 exact ⟨_, rfl, _, _, _, [], _, [], hW', trodAll_mk1 (shut_bool Try.underlying4 _), (trodAll_cons_mk (Below.trod laidOut (by kernel_rfl) (of_decide_eq_true (by kernel_rfl)) k0 bel lt0) (trodAll_cons_mk (Below.trod laidOut (by kernel_rfl) (of_decide_eq_true (by kernel_rfl)) k1 bel lt1) (trodAll_cons_mk (shut_bool Try.underlying4 _) trodAll_mk0))), rfl, bel.frame _, fun h => by cases h⟩
set_option maxRecDepth 100000 in
theorem lifted (os : Os) (started : os.Started) (H : Type) (enc : TypeId × Value → H) (F : Stop.Interp) :
  ReturnsInHanded {} Try.checked os 5 .any ((Rows.OpenSpec.upto Rows.mergeOneSidedSpec).pre6 enc Try.prog Try.f5 Rows.mergeOneSidedUptoRow.domain false) (((Rows.OpenSpec.upto Rows.mergeOneSidedSpec).at F).post enc Try.prog Try.f5 false true false false) := by
 refine returnsInHanded_of_cond (C := Try.checked) (s := Rows.OpenSpec.upto Rows.mergeOneSidedSpec) (k := Rows.uptoSmall) rfl own started (by kernel_rfl) Try.func5
  (OpenSpec.witness (enc := enc) (C := Try.checked) (s := Rows.OpenSpec.upto Rows.mergeOneSidedSpec) (k := Rows.uptoSmall) rfl false ⟨#[], #[.slice none 0 0, .slice none 0 0, .bool false], []⟩ 8 (by kernel_rfl) (by kernel_rfl) (by kernel_rfl)
   (x := ([.nil, .nil, .lit (.bool false)], [], [])) (by kernel_rfl) rfl (by kernel_rfl)) ?_
 intro W base args ds gs before hval hW _ hk _
 exact contract H enc W base args ds gs before hval hW hk
theorem proved : Rows.MergeOneSidedUptoSaid :=
 OpenClaim.holds_of_cond 5 Try.f5 rfl rfl rfl rfl rfl rfl rfl ⟨rfl, rfl, rfl, rfl, rfl⟩ rfl rfl rfl rfl rfl (by kernel_rfl) Try.func5 (by kernel_rfl)
  (of_decide_eq_true (by kernel_rfl)) (by unfold Func.isWrapper; first | (rw [if_pos (by decide +kernel)]; kernel_rfl) | (rw [if_neg (by decide +kernel)]; exact ⟨rfl, rfl⟩))
  (fun os started H enc _ F => lifted os started H enc F)
end Go.Proofs.Ytlcodfjlbhjkbaa.mergeOneSided
namespace Go.Proofs.Ytlcodfjlbhjkbaa
theorem mergeOneSided_upto : Rows.MergeOneSidedUptoSaid := mergeOneSided.proved
#print axioms mergeOneSided_upto
end Go.Proofs.Ytlcodfjlbhjkbaa
end

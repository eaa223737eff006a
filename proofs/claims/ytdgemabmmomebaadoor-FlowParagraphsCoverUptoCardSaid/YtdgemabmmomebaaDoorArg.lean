/- Arguments opened: what the form reads of an argument, as the printed contracts take it, and how much of the bound it uses. -/
import Derived.Test.YtdgemabmmomebaaDoorRows
import Derived.Test.YtdgemabmmomebaaDoorWWords
import Derived.Deep.Slices
import Derived.ChangeArms
namespace Go.Proofs.YtdgemabmmomebaaDoor.Arg
open Go.RowKit Go.Deep Go.ChangeShapes Go.WideShapes Go.Proofs.YtdgemabmmomebaaDoorW.PrintWords

/-- Whatever the form reads of a value of type t is a y of the kind d, with ok y, and y's measure is at most the reading's bulk. -/
def Opens {α : Type} (P : Program) (t : TypeId) (d : Kd α) (m : α → Nat) (ok : α → Prop) : Prop :=
  ∀ (H : Type) (enc : TypeId × Value → H) (w : World) (base : Nat) (spare : Nat → Bool) (held : Bool) (fuel : Nat) (cs : List Value) (x : DataW H × List MemPlace),
    DataW.trod enc P w base spare held fuel t cs = some x → ∃ y : α, d.K w y cs ∧ ok y ∧ m y ≤ Rows.uptoBulk x.1

theorem opens_int {P : Program} {t : TypeId} {k : IntKind} (ht : P.underlying t = some (.int k)) : Opens P t (Kd.int k) (fun _ => 1) (fun n => (Lit.int k n).wf = true) := by
  intro H enc w base spare held fuel cs x h
  obtain ⟨n, rfl, rfl, hw⟩ := DataW.trod_int ht h
  exact ⟨n, rfl, hw, by simp [Rows.uptoBulk]⟩
theorem opens_bool {P : Program} {t : TypeId} (ht : P.underlying t = some .bool) : Opens P t Kd.bool (fun _ => 1) (fun _ => True) := by
  intro H enc w base spare held fuel cs x h
  obtain ⟨n, rfl, rfl⟩ := DataW.trod_bool ht h
  exact ⟨n, rfl, trivial, by simp [Rows.uptoBulk]⟩
theorem opens_string {P : Program} {t : TypeId} (ht : P.underlying t = some .string) : Opens P t Kd.string (fun s => s.size + 1) (fun _ => True) := by
  intro H enc w base spare held fuel cs x h
  obtain ⟨s, rfl, rfl, _⟩ := DataW.trod_string ht h
  exact ⟨s, rfl, trivial, by simp [Rows.uptoBulk]⟩

theorem all_append {H : Type} (l r : List (DataW H)) : Rows.uptoBulkAll (l ++ r) = Rows.uptoBulkAll l + Rows.uptoBulkAll r := by
  induction l with
  | nil => simp [Rows.uptoBulkAll]
  | cons x l ih => simp only [List.cons_append, Rows.uptoBulkAll, ih]; omega
theorem all_range {H : Type} (D : Nat → DataW H) (f : Nat → Nat) : ∀ n, (∀ i, i < n → f i ≤ Rows.uptoBulk (D i)) → ((List.range n).map f).sum ≤ Rows.uptoBulkAll ((List.range n).map D) := by
  intro n
  induction n with
  | zero => intro _; simp [Rows.uptoBulkAll]
  | succ n ih =>
    intro h
    rw [List.range_succ, List.map_append, List.map_append, List.sum_append, all_append]
    have := ih (fun i hi => h i (by omega))
    have := h n (by omega)
    simp [Rows.uptoBulkAll]
    omega

theorem opens_slice {α : Type} {P : Program} {t e : TypeId} {d : Kd α} {m : α → Nat} {ok : α → Prop} (ht : P.underlying t = some (.slice e)) (hd : Opens P e d m ok) (hC : P.cellsOf e = d.sz) :
    Opens P t (Kd.slice e d) (fun xs => (xs.map m).sum + 1) (fun xs => ∀ x ∈ xs, ok x) := by
  intro H enc w base spare held fuel cs x h
  rcases open_slice ht h with ⟨rfl, rfl⟩ | ⟨a, len, cap, mm, n, D, Pl, rfl, _, hl, hm, hmm, rfl, hi⟩
  · exact ⟨[], ⟨none, 0, rfl, Nat.le_refl _, rfl, by simp, fun h => absurd h (Nat.lt_irrefl 0)⟩, (fun _ h => by cases h), by simp [Rows.uptoBulk]⟩
  · have hle : len ≤ mm := by rw [hmm]; split <;> omega
    have key : ∀ i, i < len → ∃ y : α, (∃ cs', w.cells? base (a.add (i * P.cellsOf e)) (P.cellsOf e) = some cs' ∧ d.K w y cs') ∧ ok y ∧ m y ≤ Rows.uptoBulk (D i) := by
      intro i hlt
      obtain ⟨cs', hc, htr⟩ := hi i (by omega)
      obtain ⟨y, hy, hok, hb⟩ := hd H enc w base spare held n cs' _ htr
      exact ⟨y, ⟨cs', hc, hy⟩, hok, hb⟩
    obtain ⟨Y, hY⟩ : ∃ Y : (i : Nat) → i < len → α, ∀ i hlt, (∃ cs', w.cells? base (a.add (i * P.cellsOf e)) (P.cellsOf e) = some cs' ∧ d.K w (Y i hlt) cs') ∧ ok (Y i hlt) ∧ m (Y i hlt) ≤ Rows.uptoBulk (D i) :=
      ⟨fun i hlt => Classical.choose (key i hlt), fun i hlt => Classical.choose_spec (key i hlt)⟩
    have hxs : (List.ofFn (fun i : Fin len => Y i.1 i.2)).length = len := by simp
    refine ⟨List.ofFn (fun i : Fin len => Y i.1 i.2), ⟨some a, cap, by rw [hxs], by rw [hxs]; exact hl, hxs.trans hxs.symm ▸ rfl, ?_, ?_⟩, ?_, ?_⟩
    · rw [hxs]; unfold maxLen at hm; omega
    · intro _
      refine ⟨a, rfl, fun j p hj => ?_⟩
      obtain ⟨hjl, hp⟩ := List.getElem?_eq_some_iff.1 hj
      have hjl' : j < len := by simpa using hjl
      rw [List.getElem_ofFn] at hp
      obtain ⟨⟨cs', hc, hK⟩, _, _⟩ := hY j hjl'
      rw [← hp]
      refine ⟨cs', d.K_len hK, hK, fun i u hu => ?_⟩
      obtain ⟨_, hcl, hat⟩ := World.cells?_some hc
      have hil : i < P.cellsOf e := by rw [← hcl]; exact (List.getElem?_eq_some_iff.1 hu).1
      have := hat i hil
      rw [← hC, ← Go.Deep.add_add, this, hu]
    · intro x hx
      obtain ⟨i, hi'⟩ := List.mem_ofFn.1 hx
      rw [← hi']
      exact (hY i.1 i.2).2.1
    · have hsum : ((List.ofFn (fun i : Fin len => Y i.1 i.2)).map m).sum ≤ Rows.uptoBulkAll ((List.range len).map D) := by
        have e : (List.ofFn (fun i : Fin len => Y i.1 i.2)).map m = (List.range len).map (fun i => if h : i < len then m (Y i h) else 0) := by
          apply List.ext_getElem
          · simp
          · intro i h1 h2
            have : i < len := by simpa using h2
            simp [this]
        rw [e]
        refine all_range D _ len (fun i hlt => ?_)
        simp only [hlt, dite_true]
        exact (hY i hlt).2.2
      simp only [Rows.uptoBulk]
      omega

/-- The fields of a struct from the cell off on. -/
def OpensFs {α : Type} (P : Program) (fs : List Field) (off : Nat) (d : Kd α) (m : α → Nat) (ok : α → Prop) : Prop :=
  ∀ (H : Type) (enc : TypeId × Value → H) (w : World) (base : Nat) (spare : Nat → Bool) (held : Bool) (fuel : Nat) (cs : List Value) (ys : List (DataW H × List MemPlace)),
    cs.length = off + d.sz → ys.length = fs.length → (∀ (i : Nat) (f : Field), fs[i]? = some f → DataW.trod enc P w base spare held fuel f.type ((cs.drop f.offset).take (P.cellsOf f.type)) = ys[i]?) →
      ∃ y : α, d.K w y (cs.drop off) ∧ ok y ∧ m y ≤ Rows.uptoBulkAll (ys.map (·.1))
theorem opens_one {α : Type} {P : Program} {f : Field} {off : Nat} {d : Kd α} {m : α → Nat} {ok : α → Prop} (h : Opens P f.type d m ok) (hC : P.cellsOf f.type = d.sz) (ho : f.offset = off) : OpensFs P [f] off d m ok := by
  intro H enc w base spare held fuel cs ys hl hy ht
  match ys, hy with
  | [z], _ =>
    have h1 := ht 0 f rfl
    rw [ho, hC, List.take_of_length_le (by rw [List.length_drop]; omega)] at h1
    obtain ⟨y, hK, hok, hb⟩ := h H enc w base spare held fuel _ z h1
    exact ⟨y, hK, hok, by simp [Rows.uptoBulkAll]; exact hb⟩
theorem opens_cons {α β : Type} {P : Program} {f : Field} {fs : List Field} {off : Nat} {d : Kd α} {d' : Kd β} {m : α → Nat} {m' : β → Nat} {ok : α → Prop} {ok' : β → Prop} (h : Opens P f.type d m ok) (hC : P.cellsOf f.type = d.sz) (ho : f.offset = off)
    (hs : OpensFs P fs (off + d.sz) d' m' ok') : OpensFs P (f :: fs) off (Kd.pair d d') (fun p => m p.1 + m' p.2) (fun p => ok p.1 ∧ ok' p.2) := by
  intro H enc w base spare held fuel cs ys hl hy ht
  have hsz : (Kd.pair d d').sz = d.sz + d'.sz := rfl
  match ys, hy with
  | z :: ys, hy =>
    have h1 := ht 0 f rfl
    rw [ho, hC] at h1
    obtain ⟨y, hK, hok, hb⟩ := h H enc w base spare held fuel _ z h1
    obtain ⟨y', hK', hok', hb'⟩ := hs H enc w base spare held fuel cs ys (by omega) (by simpa using hy) (fun i g hi => by have := ht (i + 1) g (by simpa using hi); simpa using this)
    refine ⟨(y, y'), ⟨_, _, ?_, hK, hK'⟩, ⟨hok, hok'⟩, by simp only [List.map_cons, Rows.uptoBulkAll]; omega⟩
    rw [← List.drop_drop, List.take_append_drop]
theorem opens_struct {α : Type} {P : Program} {t : TypeId} {fs : Array Field} {d : Kd α} {m : α → Nat} {ok : α → Prop} (ht : P.underlying t = some (.struct fs)) (hC : P.cellsOf t = d.sz) (h : OpensFs P fs.toList 0 d m ok) : Opens P t d (fun y => m y + 1) ok := by
  intro H enc w base spare held fuel cs x hx
  obtain ⟨ys, n, _, rfl, hl, hy, hf⟩ := DataW.trod_struct ht hx
  obtain ⟨y, hK, hok, hb⟩ := h H enc w base spare held n cs ys (by omega) (by simpa using hy) (fun i f hi => hf i f (by simpa using hi))
  exact ⟨y, by simpa using hK, hok, by simp only [Rows.uptoBulk]; omega⟩
theorem opens_iso {α β : Type} {P : Program} {t : TypeId} {d : Kd α} {m : α → Nat} {ok : α → Prop} (h : Opens P t d m ok) (f : β → α) (g : α → β) (hg : ∀ y, f (g y) = y) : Opens P t (Kd.iso d f) (fun x => m (f x)) (fun x => ok (f x)) := by
  intro H enc w base spare held fuel cs x hx
  obtain ⟨y, hK, hok, hb⟩ := h H enc w base spare held fuel cs x hx
  exact ⟨g y, by show d.K w (f (g y)) cs; rw [hg]; exact hK, by show ok (f (g y)); rw [hg]; exact hok, by show m (f (g y)) ≤ _; rw [hg]; exact hb⟩
theorem opens_mono {α : Type} {P : Program} {t : TypeId} {d : Kd α} {m m' : α → Nat} {ok ok' : α → Prop} (h : Opens P t d m ok) (hm : ∀ x, m' x ≤ m x) (ho : ∀ x, ok x → ok' x) : Opens P t d m' ok' := by
  intro H enc w base spare held fuel cs x hx
  obtain ⟨y, hK, hok, hb⟩ := h H enc w base spare held fuel cs x hx
  exact ⟨y, hK, ho y hok, Nat.le_trans (hm y) hb⟩

/-- An argument that is a slice. -/
theorem open_arg {α : Type} {P : Program} {t e : TypeId} {d : Kd α} {m : α → Nat} {ok : α → Prop} (ht : P.underlying t = some (.slice e)) (hd : Opens P e d m ok) (hC : P.cellsOf e = d.sz) {H : Type} {enc : TypeId × Value → H} {w : World} {base : Nat} {spare : Nat → Bool} {held : Bool}
    {a : Option Addr} {len cap : Nat} {D : DataW H} {ps : List MemPlace} (h : DataW.Trod enc P w base spare held t (.slice a len cap) D ps) :
    ∃ xs : List α, len = xs.length ∧ d.C w a xs.length xs ∧ xs.length ≤ cap ∧ (∀ x ∈ xs, ok x) ∧ (xs.map m).sum + 1 ≤ Rows.uptoBulk D := by
  obtain ⟨fuel, hf⟩ := h
  obtain ⟨xs, ⟨A, c, hcs, hl, hc⟩, hok, hb⟩ := opens_slice ht hd hC H enc w base spare held fuel _ _ hf
  simp [Value.cells] at hcs
  obtain ⟨rfl, rfl, rfl⟩ := hcs
  exact ⟨xs, rfl, hc, hl, hok, hb⟩
theorem sum_mem {α : Type} (m : α → Nat) {l : List α} {x : α} (h : x ∈ l) : m x ≤ (l.map m).sum := by
  induction l with
  | nil => cases h
  | cons y l ih =>
    simp only [List.map_cons, List.sum_cons]
    rcases List.mem_cons.1 h with rfl | h
    · omega
    · have := ih h; omega
theorem sum_len {α : Type} (m : α → Nat) {l : List α} (h : ∀ x ∈ l, 1 ≤ m x) : l.length ≤ (l.map m).sum := by
  induction l with
  | nil => simp
  | cons y l ih =>
    simp only [List.map_cons, List.sum_cons, List.length_cons]
    have := h y List.mem_cons_self
    have := ih (fun x hx => h x (List.mem_cons_of_mem _ hx))
    omega
theorem part_le {H : Type} {d : DataW H} {l : List (DataW H)} (h : d ∈ l) : Rows.uptoBulk d ≤ Rows.uptoBulkAll l := by
  induction l with
  | nil => cases h
  | cons x r ih =>
    simp only [Rows.uptoBulkAll]
    cases List.mem_cons.1 h with
    | inl e => subst e; omega
    | inr e => have := ih e; omega
theorem bound {H : Type} {l : List (DataW H)} (hk : Rows.uptoSmall H l = true) : Rows.uptoBulkAll l ≤ 1048576 := of_decide_eq_true hk
end Go.Proofs.YtdgemabmmomebaaDoor.Arg

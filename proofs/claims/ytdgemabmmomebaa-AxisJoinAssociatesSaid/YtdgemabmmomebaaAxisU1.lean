/- Changes of an axis as lists of units: what they do, how they are joined and rebased. No program in sight. -/
import Derived.Test.YtdgemabmmomebaaPAxisx0
namespace Go.Proofs.Ytdgemabmmomebaa.PAxis
set_option linter.unusedVariables false
set_option linter.unusedSimpArgs false

/-- One row is kept, added, cut. -/
inductive Un where
  | k : Un
  | a : Un
  | c : Un
def Un.isB : Un → Bool
  | .a => false
  | _ => true
def Un.isA : Un → Bool
  | .c => false
  | _ => true
/-- How many rows there are before and after. -/
def bef (u : List Un) : Nat := u.countP Un.isB
def aft (u : List Un) : Nat := u.countP Un.isA
theorem bef_nil : bef [] = 0 := rfl
theorem aft_nil : aft [] = 0 := rfl
theorem bef_k (u : List Un) : bef (.k :: u) = bef u + 1 := List.countP_cons_of_pos rfl
theorem bef_a (u : List Un) : bef (.a :: u) = bef u := List.countP_cons_of_neg (by decide)
theorem bef_c (u : List Un) : bef (.c :: u) = bef u + 1 := List.countP_cons_of_pos rfl
theorem aft_k (u : List Un) : aft (.k :: u) = aft u + 1 := List.countP_cons_of_pos rfl
theorem aft_a (u : List Un) : aft (.a :: u) = aft u + 1 := List.countP_cons_of_pos rfl
theorem aft_c (u : List Un) : aft (.c :: u) = aft u := List.countP_cons_of_neg (by decide)
theorem bef_app (u v : List Un) : bef (u ++ v) = bef u + bef v := by simp [bef]
theorem aft_app (u v : List Un) : aft (u ++ v) = aft u + aft v := by simp [aft]
theorem bef_rep_k (n : Nat) : bef (List.replicate n .k) = n := by simp [bef, List.countP_replicate, Un.isB]
theorem bef_rep_a (n : Nat) : bef (List.replicate n .a) = 0 := by simp [bef, List.countP_replicate, Un.isB]
theorem bef_rep_c (n : Nat) : bef (List.replicate n .c) = n := by simp [bef, List.countP_replicate, Un.isB]
theorem aft_rep_k (n : Nat) : aft (List.replicate n .k) = n := by simp [aft, List.countP_replicate, Un.isA]
theorem aft_rep_a (n : Nat) : aft (List.replicate n .a) = n := by simp [aft, List.countP_replicate, Un.isA]
theorem aft_rep_c (n : Nat) : aft (List.replicate n .c) = 0 := by simp [aft, List.countP_replicate, Un.isA]
theorem bef_len (u : List Un) : bef u ≤ u.length := List.countP_le_length
theorem aft_len (u : List Un) : aft u ≤ u.length := List.countP_le_length

/-- What becomes of rows; an added one is none. -/
def act : List Un → List (Option Nat) → List (Option Nat)
  | [], _ => []
  | .a :: u, l => none :: act u l
  | .k :: u, [] => act u []
  | .k :: u, x :: l => x :: act u l
  | .c :: u, [] => act u []
  | .c :: u, _ :: l => act u l
theorem act_nil (l : List (Option Nat)) : act [] l = [] := by cases l <;> rfl
theorem act_a (u : List Un) (l : List (Option Nat)) : act (.a :: u) l = none :: act u l := by cases l <;> rfl
theorem act_k (u : List Un) (x : Option Nat) (l : List (Option Nat)) : act (.k :: u) (x :: l) = x :: act u l := rfl
theorem act_c (u : List Un) (l : List (Option Nat)) : act (.c :: u) l = act u (l.drop 1) := by cases l <;> rfl
theorem act_append : ∀ (u t : List Un) (l : List (Option Nat)), act (u ++ t) l = act u l ++ act t (l.drop (bef u))
  | [], t, l => by simp [act_nil, bef_nil]
  | .a :: u, t, l => by rw [List.cons_append, act_a, act_a, act_append u t l, bef_a, List.cons_append]
  | .k :: u, t, [] => by
    show act (u ++ t) [] = act u [] ++ act t (List.drop _ [])
    rw [act_append u t []]
    simp
  | .k :: u, t, x :: l => by rw [List.cons_append, act_k, act_k, act_append u t l, bef_k, List.cons_append]; rfl
  | .c :: u, t, l => by
    rw [List.cons_append, act_c, act_c, act_append u t _, bef_c, List.drop_drop, Nat.add_comm]
theorem act_rep_a (n : Nat) (l : List (Option Nat)) : act (List.replicate n .a) l = List.replicate n none := by
  induction n with
  | zero => exact act_nil l
  | succ n ih => rw [List.replicate_succ, act_a, ih, List.replicate_succ]
theorem act_rep_c (n : Nat) : ∀ (l : List (Option Nat)), act (List.replicate n .c) l = [] := by
  induction n with
  | zero => exact act_nil
  | succ n ih => intro l; rw [List.replicate_succ, act_c, ih]

/-- Two lists of units that do the same. -/
structure E (u v : List Un) : Prop where
  act_ : ∀ l, act u l = act v l
  perm : u.Perm v
theorem E.refl (u : List Un) : E u u := ⟨fun _ => rfl, .refl _⟩
theorem E.symm {u v : List Un} (h : E u v) : E v u := ⟨fun l => (h.act_ l).symm, h.perm.symm⟩
theorem E.trans {u v z : List Un} (h : E u v) (k : E v z) : E u z := ⟨fun l => (h.act_ l).trans (k.act_ l), h.perm.trans k.perm⟩
theorem E.bef {u v : List Un} (h : E u v) : bef u = bef v := h.perm.countP_eq _
theorem E.aft {u v : List Un} (h : E u v) : aft u = aft v := h.perm.countP_eq _
theorem E.len {u v : List Un} (h : E u v) : u.length = v.length := h.perm.length_eq
theorem E.app {u v u' v' : List Un} (h : E u v) (k : E u' v') : E (u ++ u') (v ++ v') :=
  ⟨fun l => by rw [act_append, act_append, h.act_, k.act_, h.bef], h.perm.append k.perm⟩
theorem E.swap (n m : Nat) : E (List.replicate m .c ++ List.replicate n .a) (List.replicate n .a ++ List.replicate m .c) :=
  ⟨fun l => by rw [act_append, act_append, act_rep_a, act_rep_a, act_rep_c, act_rep_c]; simp, List.perm_append_comm⟩

/-- One change for two. -/
inductive JoinR : List Un → List Un → List Un → Prop
  | nil : JoinR [] [] []
  | cut {u v r : List Un} : JoinR u v r → JoinR (.c :: u) v (.c :: r)
  | add {u v r : List Un} : JoinR u v r → JoinR u (.a :: v) (.a :: r)
  | kk {u v r : List Un} : JoinR u v r → JoinR (.k :: u) (.k :: v) (.k :: r)
  | kc {u v r : List Un} : JoinR u v r → JoinR (.k :: u) (.c :: v) (.c :: r)
  | ak {u v r : List Un} : JoinR u v r → JoinR (.a :: u) (.k :: v) (.a :: r)
  | ac {u v r : List Un} : JoinR u v r → JoinR (.a :: u) (.c :: v) r
section
variable {u v r : List Un}
theorem JoinR.cut_n (h : JoinR u v r) : ∀ n : Nat, JoinR (List.replicate n .c ++ u) v (List.replicate n .c ++ r)
  | 0 => h
  | n + 1 => by rw [List.replicate_succ]; exact .cut (h.cut_n n)
theorem JoinR.add_n (h : JoinR u v r) : ∀ n : Nat, JoinR u (List.replicate n .a ++ v) (List.replicate n .a ++ r)
  | 0 => h
  | n + 1 => by rw [List.replicate_succ]; exact .add (h.add_n n)
theorem JoinR.kk_n (h : JoinR u v r) : ∀ n : Nat, JoinR (List.replicate n .k ++ u) (List.replicate n .k ++ v) (List.replicate n .k ++ r)
  | 0 => h
  | n + 1 => by rw [List.replicate_succ]; exact .kk (h.kk_n n)
theorem JoinR.kc_n (h : JoinR u v r) : ∀ n : Nat, JoinR (List.replicate n .k ++ u) (List.replicate n .c ++ v) (List.replicate n .c ++ r)
  | 0 => h
  | n + 1 => by rw [List.replicate_succ, List.replicate_succ]; exact .kc (h.kc_n n)
theorem JoinR.ak_n (h : JoinR u v r) : ∀ n : Nat, JoinR (List.replicate n .a ++ u) (List.replicate n .k ++ v) (List.replicate n .a ++ r)
  | 0 => h
  | n + 1 => by rw [List.replicate_succ, List.replicate_succ]; exact .ak (h.ak_n n)
theorem JoinR.ac_n (h : JoinR u v r) : ∀ n : Nat, JoinR (List.replicate n .a ++ u) (List.replicate n .c ++ v) r
  | 0 => h
  | n + 1 => by rw [List.replicate_succ, List.replicate_succ]; exact .ac (h.ac_n n)
theorem JoinR.counts (h : JoinR u v r) : bef r = bef u ∧ aft r = aft v ∧ aft u = bef v ∧ r.length ≤ u.length + v.length := by
  induction h with
  | nil => exact ⟨rfl, rfl, rfl, Nat.le_refl _⟩
  | _ h ih =>
    simp only [bef_k, bef_a, bef_c, aft_k, aft_a, aft_c, List.length_cons]
    omega
theorem JoinR.acts (h : JoinR u v r) : ∀ l, bef u = l.length → act v (act u l) = act r l := by
  induction h with
  | nil => intro l _; simp [act_nil]
  | cut h ih =>
    intro l hl
    rw [bef_c] at hl
    obtain ⟨x, l, rfl⟩ : ∃ x m, l = x :: m := by cases l with | nil => simp at hl | cons x m => exact ⟨x, m, rfl⟩
    exact ih l (by simpa using hl)
  | add h ih =>
    intro l hl
    rw [act_a, act_a, ih l hl]
  | kk h ih =>
    intro l hl
    rw [bef_k] at hl
    obtain ⟨x, l, rfl⟩ : ∃ x m, l = x :: m := by cases l with | nil => simp at hl | cons x m => exact ⟨x, m, rfl⟩
    rw [act_k, act_k, act_k, ih l (by simpa using hl)]
  | kc h ih =>
    intro l hl
    rw [bef_k] at hl
    obtain ⟨x, l, rfl⟩ : ∃ x m, l = x :: m := by cases l with | nil => simp at hl | cons x m => exact ⟨x, m, rfl⟩
    exact ih l (by simpa using hl)
  | ak h ih =>
    intro l hl
    rw [bef_a] at hl
    rw [act_a, act_k, act_a, ih l hl]
  | ac h ih =>
    intro l hl
    rw [bef_a] at hl
    rw [act_a]
    exact ih l hl
end
/-- Two changes, rebased over each other. -/
inductive PairR : List Un → List Un → List Un → List Un → Prop
  | nil : PairR [] [] [] []
  | addp {u v x y : List Un} : PairR u v x y → PairR (.a :: u) v (.a :: x) (.k :: y)
  | addq {u v x y : List Un} : PairR u v x y → PairR u (.a :: v) (.k :: x) (.a :: y)
  | kk {u v x y : List Un} : PairR u v x y → PairR (.k :: u) (.k :: v) (.k :: x) (.k :: y)
  | kc {u v x y : List Un} : PairR u v x y → PairR (.k :: u) (.c :: v) x (.c :: y)
  | ck {u v x y : List Un} : PairR u v x y → PairR (.c :: u) (.k :: v) (.c :: x) y
  | cc {u v x y : List Un} : PairR u v x y → PairR (.c :: u) (.c :: v) x y
section
variable {u v x y : List Un}
theorem PairR.addp_n (h : PairR u v x y) : ∀ n : Nat, PairR (List.replicate n .a ++ u) v (List.replicate n .a ++ x) (List.replicate n .k ++ y)
  | 0 => h
  | n + 1 => by rw [List.replicate_succ, List.replicate_succ]; exact .addp (h.addp_n n)
theorem PairR.addq_n (h : PairR u v x y) : ∀ n : Nat, PairR u (List.replicate n .a ++ v) (List.replicate n .k ++ x) (List.replicate n .a ++ y)
  | 0 => h
  | n + 1 => by rw [List.replicate_succ, List.replicate_succ]; exact .addq (h.addq_n n)
theorem PairR.kk_n (h : PairR u v x y) : ∀ n : Nat, PairR (List.replicate n .k ++ u) (List.replicate n .k ++ v) (List.replicate n .k ++ x) (List.replicate n .k ++ y)
  | 0 => h
  | n + 1 => by rw [List.replicate_succ]; exact .kk (h.kk_n n)
theorem PairR.kc_n (h : PairR u v x y) : ∀ n : Nat, PairR (List.replicate n .k ++ u) (List.replicate n .c ++ v) x (List.replicate n .c ++ y)
  | 0 => h
  | n + 1 => by rw [List.replicate_succ, List.replicate_succ]; exact .kc (h.kc_n n)
theorem PairR.ck_n (h : PairR u v x y) : ∀ n : Nat, PairR (List.replicate n .c ++ u) (List.replicate n .k ++ v) (List.replicate n .c ++ x) y
  | 0 => h
  | n + 1 => by rw [List.replicate_succ, List.replicate_succ]; exact .ck (h.ck_n n)
theorem PairR.cc_n (h : PairR u v x y) : ∀ n : Nat, PairR (List.replicate n .c ++ u) (List.replicate n .c ++ v) x y
  | 0 => h
  | n + 1 => by rw [List.replicate_succ]; exact .cc (h.cc_n n)
theorem PairR.counts (h : PairR u v x y) : bef u = bef v ∧ bef x = aft v ∧ bef y = aft u ∧ aft x = aft y ∧ x.length ≤ u.length + v.length ∧ y.length ≤ u.length + v.length := by
  induction h with
  | nil => exact ⟨rfl, rfl, rfl, rfl, Nat.le_refl _, Nat.le_refl _⟩
  | _ h ih =>
    simp only [bef_k, bef_a, bef_c, aft_k, aft_a, aft_c, List.length_cons]
    omega
theorem PairR.acts (h : PairR u v x y) : ∀ l, bef u = l.length → act y (act u l) = act x (act v l) := by
  induction h with
  | nil => intro l _; simp [act_nil]
  | addp h ih =>
    intro l hl
    rw [bef_a] at hl
    rw [act_a, act_a, act_k, ih l hl]
  | addq h ih =>
    intro l hl
    rw [act_a, act_a, act_k, ih l hl]
  | kk h ih =>
    intro l hl
    rw [bef_k] at hl
    obtain ⟨x, l, rfl⟩ : ∃ x m, l = x :: m := by cases l with | nil => simp at hl | cons x m => exact ⟨x, m, rfl⟩
    rw [act_k, act_k, act_k, act_k, ih l (by simpa using hl)]
  | kc h ih =>
    intro l hl
    rw [bef_k] at hl
    obtain ⟨x, l, rfl⟩ : ∃ x m, l = x :: m := by cases l with | nil => simp at hl | cons x m => exact ⟨x, m, rfl⟩
    exact ih l (by simpa using hl)
  | ck h ih =>
    intro l hl
    rw [bef_c] at hl
    obtain ⟨x, l, rfl⟩ : ∃ x m, l = x :: m := by cases l with | nil => simp at hl | cons x m => exact ⟨x, m, rfl⟩
    exact ih l (by simpa using hl)
  | cc h ih =>
    intro l hl
    rw [bef_c] at hl
    obtain ⟨x, l, rfl⟩ : ∃ x m, l = x :: m := by cases l with | nil => simp at hl | cons x m => exact ⟨x, m, rfl⟩
    exact ih l (by simpa using hl)
end
/-- No cut stands directly ahead of an addition. -/
def Nm (u : List Un) : Prop := ∀ p s : List Un, u ≠ p ++ .c :: .a :: s
theorem Nm.tail {x : Un} {u : List Un} (h : Nm (x :: u)) : Nm u := fun p s e => h (x :: p) s (by rw [e]; rfl)
theorem Nm.cons {x : Un} {u : List Un} (h : Nm u) (hx : x = .c → ∀ s, u ≠ .a :: s) : Nm (x :: u) := by
  intro p s e
  cases p with
  | nil =>
    injection e with e1 e2
    exact hx e1 s e2
  | cons y p =>
    injection e with e1 e2
    exact h p s e2
theorem mem_act : ∀ (u : List Un) (l : List (Option Nat)) (x : Option Nat), x ∈ act u l → x = none ∨ x ∈ l
  | [], l, x, h => by rw [act_nil] at h; cases h
  | .a :: u, l, x, h => by
    rw [act_a, List.mem_cons] at h
    exact h.imp id (mem_act u l x) |>.elim .inl id
  | .k :: u, [], x, h => mem_act u [] x h
  | .k :: u, y :: l, x, h => by
    rw [act_k, List.mem_cons] at h
    rcases h with rfl | h
    · exact .inr (List.mem_cons_self ..)
    · exact (mem_act u l x h).imp id (List.mem_cons_of_mem _)
  | .c :: u, [], x, h => mem_act u [] x h
  | .c :: u, y :: l, x, h => (mem_act u l x h).imp id (List.mem_cons_of_mem _)
theorem act_head : ∀ (v : List Un) (l r : List (Option Nat)), Nm v → (∀ s, v ≠ .a :: s) → (∀ x, x ∈ l → x ≠ none) → bef v = l.length → act v l ≠ none :: r
  | [], l, r, _, _, _, _ => by rw [act_nil]; simp
  | .a :: v, l, r, _, h, _, _ => absurd rfl (h v)
  | .k :: v, [], r, _, _, _, h => by rw [bef_k] at h; simp at h
  | .k :: v, x :: l, r, _, _, hl, _ => by
    rw [act_k]
    intro e
    injection e with e1 e2
    exact hl x (List.mem_cons_self ..) e1
  | .c :: v, [], r, _, _, _, h => by rw [bef_c] at h; simp at h
  | .c :: v, x :: l, r, hn, _, hl, h => by
    rw [bef_c] at h
    exact act_head v l r hn.tail (fun s e => hn [] s (by rw [e]; rfl)) (fun x hx => hl x (List.mem_cons_of_mem _ hx)) (by simpa using h)
theorem faithful : ∀ (u v : List Un) (l : List (Option Nat)), Nm u → Nm v → bef u = l.length → bef v = l.length → l.Nodup → (∀ x, x ∈ l → x ≠ none) → act u l = act v l → u = v
  | [], [], l, _, _, _, _, _, _, _ => rfl
  | [], .a :: v, l, _, _, _, _, _, _, h => by rw [act_nil, act_a] at h; cases h
  | [], .k :: v, l, _, _, h1, h2, _, _, _ => by rw [bef_k] at h2; rw [bef_nil] at h1; omega
  | [], .c :: v, l, _, _, h1, h2, _, _, _ => by rw [bef_c] at h2; rw [bef_nil] at h1; omega
  | .a :: u, [], l, _, _, _, _, _, _, h => by rw [act_nil, act_a] at h; cases h
  | .k :: u, [], l, _, _, h2, h1, _, _, _ => by rw [bef_k] at h2; rw [bef_nil] at h1; omega
  | .c :: u, [], l, _, _, h2, h1, _, _, _ => by rw [bef_c] at h2; rw [bef_nil] at h1; omega
  | .a :: u, .a :: v, l, hu, hv, h1, h2, hn, hl, h => by
    rw [act_a, act_a] at h
    injection h with _ h
    rw [faithful u v l hu.tail hv.tail (by rwa [bef_a] at h1) (by rwa [bef_a] at h2) hn hl h]
  | .a :: u, .k :: v, l, hu, hv, h1, h2, hn, hl, h => absurd (h.symm.trans (act_a u l)) (act_head _ l _ hv (fun s e => by cases e) hl h2)
  | .a :: u, .c :: v, l, hu, hv, h1, h2, hn, hl, h => absurd (h.symm.trans (act_a u l)) (act_head _ l _ hv (fun s e => by cases e) hl h2)
  | .k :: u, .a :: v, l, hu, hv, h1, h2, hn, hl, h => absurd (h.trans (act_a v l)) (act_head _ l _ hu (fun s e => by cases e) hl h1)
  | .c :: u, .a :: v, l, hu, hv, h1, h2, hn, hl, h => absurd (h.trans (act_a v l)) (act_head _ l _ hu (fun s e => by cases e) hl h1)
  | .k :: u, .k :: v, [], hu, hv, h1, h2, hn, hl, h => by rw [bef_k] at h1; simp at h1
  | .k :: u, .c :: v, [], hu, hv, h1, h2, hn, hl, h => by rw [bef_k] at h1; simp at h1
  | .c :: u, .k :: v, [], hu, hv, h1, h2, hn, hl, h => by rw [bef_c] at h1; simp at h1
  | .c :: u, .c :: v, [], hu, hv, h1, h2, hn, hl, h => by rw [bef_c] at h1; simp at h1
  | .k :: u, .k :: v, x :: l, hu, hv, h1, h2, hn, hl, h => by
    rw [bef_k] at h1 h2
    rw [act_k, act_k] at h
    injection h with _ h
    rw [faithful u v l hu.tail hv.tail (by simpa using h1) (by simpa using h2) (List.nodup_cons.1 hn).2 (fun x hx => hl x (List.mem_cons_of_mem _ hx)) h]
  | .c :: u, .c :: v, x :: l, hu, hv, h1, h2, hn, hl, h => by
    rw [bef_c] at h1 h2
    rw [faithful u v l hu.tail hv.tail (by simpa using h1) (by simpa using h2) (List.nodup_cons.1 hn).2 (fun x hx => hl x (List.mem_cons_of_mem _ hx)) h]
  | .k :: u, .c :: v, x :: l, hu, hv, h1, h2, hn, hl, h => by
    exfalso
    have hm : x ∈ act v l := by
      rw [show act v l = act (.k :: u) (x :: l) from h.symm, act_k]
      exact List.mem_cons_self ..
    rcases mem_act v l x hm with e | e
    · exact hl x (List.mem_cons_self ..) e
    · exact (List.nodup_cons.1 hn).1 e
  | .c :: u, .k :: v, x :: l, hu, hv, h1, h2, hn, hl, h => by
    exfalso
    have hm : x ∈ act u l := by
      rw [show act u l = act (.k :: v) (x :: l) from h, act_k]
      exact List.mem_cons_self ..
    rcases mem_act u l x hm with e | e
    · exact hl x (List.mem_cons_self ..) e
    · exact (List.nodup_cons.1 hn).1 e
/-- Distinct rows. -/
def rows (n : Nat) : List (Option Nat) := (List.range n).map some
theorem rows_len (n : Nat) : (rows n).length = n := by simp [rows]
theorem rows_nodup (n : Nat) : (rows n).Nodup := by
  unfold rows
  rw [List.nodup_iff_pairwise_ne, List.pairwise_map]
  exact List.Pairwise.imp (fun h e => h (by injection e)) List.nodup_range
theorem rows_some (n : Nat) : ∀ x, x ∈ rows n → x ≠ none := by
  intro x hx
  obtain ⟨i, _, rfl⟩ := List.mem_map.1 hx
  simp
theorem same_units {u v : List Un} (hu : Nm u) (hv : Nm v) (hb : bef u = bef v) (h : act u (rows (bef u)) = act v (rows (bef u))) : u = v :=
  faithful u v (rows (bef u)) hu hv (rows_len _).symm (by rw [rows_len, hb]) (rows_nodup _) (rows_some _) h
end Go.Proofs.Ytdgemabmmomebaa.PAxis

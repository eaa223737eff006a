/- The loops of Join and Pair, as units. -/
import Derived.Test.YtdgemabmmomebaaAxisU2
namespace Go.Proofs.Ytdgemabmmomebaa.PAxis
open Go.RowKit Go.Proofs.YtdgemabmmomebaaW.PrintWords Go.Proofs.YtdgemabmmomebaaW.PrintLast Go.Proofs.YtdgemabmmomebaaW.PrintMore
set_option linter.unusedVariables false
set_option linter.unusedSimpArgs false

theorem K3.nn {k : Int} (h : K3 k) : 0 ≤ k := by rcases h with h | h | h <;> omega
theorem un0 {k : Int} (h : k = 0) : un k = .k := by rw [h]; rfl
theorem un1 {k : Int} (h : k = 1) : un k = .a := by rw [h]; rfl
theorem un2 {k : Int} (h : k = 2) : un k = .c := by rw [h]; rfl
theorem bef_rep (n : Nat) (x : Un) : bef (List.replicate n x) = if x.isB then n else 0 := by simp [bef, List.countP_replicate]
theorem aft_rep (n : Nat) (x : Un) : aft (List.replicate n x) = if x.isA then n else 0 := by simp [aft, List.countP_replicate]
theorem mn_le (x y : Int) : mn x y ≤ x ∧ mn x y ≤ y ∧ (mn x y = x ∨ mn x y = y) := by
  unfold mn
  split <;> omega

theorem joinL_ok : ∀ (m : Nat) (a : List S97) (ua : Int) (b : List S97) (ub : Int) (s : WS), RFn a ua → RFn b ub → WFn s → aft (exR a ua) = bef (exR b ub) →
    (exW s).length + (exR a ua).length + (exR b ub).length ≤ 1099511627776 → (exR a ua).length + (exR b ub).length < m →
    ∃ s' r, joinL m a ua b ub s = some s' ∧ JoinR (exR a ua) (exR b ub) r ∧ E (exW s') (exW s ++ r) ∧ WFn s'
  | 0, a, ua, b, ub, s, _, _, _, _, _, hm => absurd hm (Nat.not_lt_zero _)
  | m + 1, a, ua, b, ub, s, ha, hb, hs, hl, hz, hm => by
    rw [joinL, if_neg (by have := hs.len; omega)]
    cases a with
    | nil =>
      rw [exR_nil] at *
      cases b with
      | nil =>
        rw [exR_nil] at *
        rw [if_neg (by rw [kindL_nil]; omega)]
        exact ⟨s, [], rfl, .nil, by simpa using E.refl _, hs⟩
      | cons t b =>
        obtain ⟨hk, h1, h2, h3⟩ := hb.bound
        obtain ⟨hr, he⟩ := hb.all
        have hk1 : t.f0 = 1 := by
          rw [he, aft_nil, bef_app, bef_rep] at hl
          rcases hk with e | e | e
          · rw [un0 e] at hl; simp only [Un.isB, ↓reduceIte] at hl; omega
          · exact e
          · rw [un2 e] at hl; simp only [Un.isB, ↓reduceIte] at hl; omega
        rw [if_pos (.inr (by rw [kindL_cons]; omega)), if_neg (by rw [kindL_nil]; decide), if_pos (by rw [kindL_cons]; exact hk1), hb.left]
        rw [un1 hk1] at he
        rw [he] at hl hz hm ⊢
        simp only [List.length_append, List.length_replicate, List.length_nil] at hz hm
        obtain ⟨hw, hE⟩ := put_ok (kind := 1) (n := t.f1 - ub) hs (.inr (.inl rfl)) (by omega) (by omega)
        have hwl := hE.len
        simp only [List.length_append, List.length_replicate] at hwl
        obtain ⟨s', r, e1, e2, e3, e4⟩ := joinL_ok m [] ua _ _ _ ha hr hw (by rw [exR_nil, aft_nil]; rw [aft_nil, bef_app, bef_rep_a] at hl; omega) (by rw [exR_nil, List.length_nil]; omega) (by rw [exR_nil, List.length_nil]; omega)
        rw [exR_nil] at e2
        refine ⟨s', _, e1, e2.add_n (t.f1 - ub).toNat, e3.trans ?_, e4⟩
        rw [← List.append_assoc]
        exact hE.app (E.refl _)
    | cons x a =>
      obtain ⟨hk, h1, h2, h3⟩ := ha.bound
      obtain ⟨hr, he⟩ := ha.all
      rw [if_pos (.inl (by rw [kindL_cons]; exact hk.nn)), kindL_cons]
      by_cases c2 : x.f0 = 2
      · rw [if_pos c2, ha.left]
        rw [un2 c2] at he
        rw [he] at hl hz hm ⊢
        simp only [List.length_append, List.length_replicate] at hz hm
        obtain ⟨hw, hE⟩ := put_ok (kind := 2) (n := x.f1 - ua) hs (.inr (.inr rfl)) (by omega) (by omega)
        have hwl := hE.len
        simp only [List.length_append, List.length_replicate] at hwl
        obtain ⟨s', r, e1, e2, e3, e4⟩ := joinL_ok m _ _ b ub _ hr hb hw (by rw [aft_app, aft_rep_c] at hl; omega) (by omega) (by omega)
        refine ⟨s', _, e1, e2.cut_n (x.f1 - ua).toNat, e3.trans ?_, e4⟩
        rw [← List.append_assoc]
        exact hE.app (E.refl _)
      rw [if_neg c2]
      cases b with
      | nil =>
        exfalso
        rw [exR_nil, bef_nil, he, aft_app, aft_rep] at hl
        rcases hk with e | e | e
        · rw [un0 e] at hl; simp only [Un.isA, ↓reduceIte] at hl; omega
        · rw [un1 e] at hl; simp only [Un.isA, ↓reduceIte] at hl; omega
        · exact c2 e
      | cons t b =>
        obtain ⟨hk', h1', h2', h3'⟩ := hb.bound
        obtain ⟨hr', he'⟩ := hb.all
        rw [kindL_cons]
        by_cases c1 : t.f0 = 1
        · rw [if_pos c1, hb.left]
          rw [un1 c1] at he'
          rw [he'] at hl hz hm ⊢
          simp only [List.length_append, List.length_replicate] at hz hm
          obtain ⟨hw, hE⟩ := put_ok (kind := 1) (n := t.f1 - ub) hs (.inr (.inl rfl)) (by omega) (by omega)
          have hwl := hE.len
          simp only [List.length_append, List.length_replicate] at hwl
          obtain ⟨s', r, e1, e2, e3, e4⟩ := joinL_ok m (x :: a) ua _ _ _ ha hr' hw (by rw [bef_app, bef_rep_a] at hl; omega) (by omega) (by omega)
          refine ⟨s', _, e1, e2.add_n (t.f1 - ub).toNat, e3.trans ?_, e4⟩
          rw [← List.append_assoc]
          exact hE.app (E.refl _)
        rw [if_neg c1, if_neg (by simp only [List.length_cons]; have := hk.nn; omega), ha.left, hb.left]
        obtain ⟨n, hn⟩ : ∃ n, n = mn (x.f1 - ua) (t.f1 - ub) := ⟨_, rfl⟩
        have hmn := mn_le (x.f1 - ua) (t.f1 - ub)
        rw [← hn] at hmn ⊢
        clear hn
        obtain ⟨hr, he⟩ := ha.take (n := n) (by omega) (by omega)
        obtain ⟨hr', he'⟩ := hb.take (n := n) (by omega) (by omega)
        rw [he, he'] at hl hz hm ⊢
        simp only [List.length_append, List.length_replicate] at hz hm
        have hl2 : aft (exR (takeL (x :: a) ua n) (takeU (x :: a) ua n)) = bef (exR (takeL (t :: b) ub n) (takeU (t :: b) ub n)) := by
          rw [aft_app, bef_app, aft_rep, bef_rep] at hl
          rcases hk with e | e | e
          · rcases hk' with e' | e' | e'
            · rw [un0 e, un0 e'] at hl; simp only [Un.isA, Un.isB, ↓reduceIte] at hl; omega
            · exact absurd e' c1
            · rw [un0 e, un2 e'] at hl; simp only [Un.isA, Un.isB, ↓reduceIte] at hl; omega
          · rcases hk' with e' | e' | e'
            · rw [un1 e, un0 e'] at hl; simp only [Un.isA, Un.isB, ↓reduceIte] at hl; omega
            · exact absurd e' c1
            · rw [un1 e, un2 e'] at hl; simp only [Un.isA, Un.isB, ↓reduceIte] at hl; omega
          · exact absurd e c2
        by_cases c0 : x.f0 = 0
        · rw [if_pos c0]
          obtain ⟨hw, hE⟩ := put_ok (kind := t.f0) (n := n) hs hk' (by omega) (by omega)
          have hwl := hE.len
          simp only [List.length_append, List.length_replicate] at hwl
          obtain ⟨s', r, e1, e2, e3, e4⟩ := joinL_ok m _ _ _ _ _ hr hr' hw hl2 (by omega) (by omega)
          rw [un0 c0]
          refine ⟨s', List.replicate n.toNat (un t.f0) ++ r, e1, ?_, e3.trans ?_, e4⟩
          · rcases hk' with e' | e' | e'
            · rw [un0 e']; exact e2.kk_n _
            · exact absurd e' c1
            · rw [un2 e']; exact e2.kc_n _
          · rw [← List.append_assoc]
            exact hE.app (E.refl _)
        have c1x : x.f0 = 1 := by rcases hk with e | e | e <;> first | exact e | exact absurd e c0 | exact absurd e c2
        rw [if_neg c0, un1 c1x]
        by_cases d0 : t.f0 = 0
        · rw [if_pos d0, un0 d0]
          obtain ⟨hw, hE⟩ := put_ok (kind := 1) (n := n) hs (.inr (.inl rfl)) (by omega) (by omega)
          have hwl := hE.len
          simp only [List.length_append, List.length_replicate] at hwl
          obtain ⟨s', r, e1, e2, e3, e4⟩ := joinL_ok m _ _ _ _ _ hr hr' hw hl2 (by omega) (by omega)
          refine ⟨s', List.replicate n.toNat .a ++ r, e1, e2.ak_n _, e3.trans ?_, e4⟩
          rw [← List.append_assoc]
          exact hE.app (E.refl _)
        · have d2 : t.f0 = 2 := by rcases hk' with e | e | e <;> first | exact e | exact absurd e d0 | exact absurd e c1
          rw [if_neg d0, un2 d2]
          obtain ⟨s', r, e1, e2, e3, e4⟩ := joinL_ok m _ _ _ _ _ hr hr' hs hl2 (by omega) (by omega)
          exact ⟨s', r, e1, e2.ac_n _, e3, e4⟩

theorem pairL_ok : ∀ (m : Nat) (a : List S97) (ua : Int) (b : List S97) (ub : Int) (s t : WS), RFn a ua → RFn b ub → WFn s → WFn t → bef (exR a ua) = bef (exR b ub) →
    (exW s).length + (exR a ua).length + (exR b ub).length ≤ 1099511627776 → (exW t).length + (exR a ua).length + (exR b ub).length ≤ 1099511627776 → (exR a ua).length + (exR b ub).length < m →
    ∃ s' t' x y, pairL m a ua b ub s t = some (s', t') ∧ PairR (exR a ua) (exR b ub) x y ∧ E (exW s') (exW s ++ x) ∧ E (exW t') (exW t ++ y) ∧ WFn s' ∧ WFn t'
  | 0, a, ua, b, ub, s, t, _, _, _, _, _, _, _, hm => absurd hm (Nat.not_lt_zero _)
  | m + 1, a, ua, b, ub, s, t, ha, hb, hs, ht, hl, hz, hy, hm => by
    rw [pairL, if_neg (by have := hs.len; have := ht.len; omega)]
    by_cases dadd : kindL b = 1 ∧ kindL a ≠ 1
    · obtain ⟨d1, d2⟩ := dadd
      cases b with
      | nil => rw [kindL_nil] at d1; omega
      | cons z b =>
        obtain ⟨hk, h1, h2, h3⟩ := hb.bound
        obtain ⟨hr, he⟩ := hb.all
        rw [if_pos (.inr (by omega)), if_neg d2, if_pos d1, hb.left]
        rw [kindL_cons] at d1
        rw [un1 d1] at he
        rw [he] at hl hz hm hy ⊢
        simp only [List.length_append, List.length_replicate] at hz hm hy
        obtain ⟨hw, hE⟩ := put_ok (kind := 0) (n := z.f1 - ub) hs (.inl rfl) (by omega) (by omega)
        obtain ⟨hw', hE'⟩ := put_ok (kind := 1) (n := z.f1 - ub) ht (.inr (.inl rfl)) (by omega) (by omega)
        have hwl := hE.len
        have hwl' := hE'.len
        simp only [List.length_append, List.length_replicate] at hwl hwl'
        obtain ⟨s', t', x, y, e1, e2, e3, e4, e5⟩ := pairL_ok m a ua _ _ _ _ ha hr hw hw' (by rw [bef_app, bef_rep_a] at hl; omega) (by omega) (by omega) (by omega)
        refine ⟨s', t', _, _, e1, e2.addq_n (z.f1 - ub).toNat, e3.trans ?_, e4.trans ?_, e5⟩
        · rw [← List.append_assoc]; exact hE.app (E.refl _)
        · rw [← List.append_assoc]; exact hE'.app (E.refl _)
    cases a with
    | nil =>
      rw [kindL_nil] at *
      cases b with
      | nil =>
        rw [exR_nil, exR_nil] at *
        rw [if_neg (by rw [kindL_nil]; omega)]
        exact ⟨s, t, [], [], rfl, .nil, by simpa using E.refl _, by simpa using E.refl _, hs, ht⟩
      | cons z b =>
        exfalso
        obtain ⟨hk, h1, h2, h3⟩ := hb.bound
        obtain ⟨hr, he⟩ := hb.all
        rw [kindL_cons] at dadd
        rw [he, exR_nil, bef_nil, bef_app, bef_rep] at hl
        rcases hk with e | e | e
        · rw [un0 e] at hl; simp only [Un.isB, ↓reduceIte] at hl; omega
        · exact dadd ⟨e, by decide⟩
        · rw [un2 e] at hl; simp only [Un.isB, ↓reduceIte] at hl; omega
    | cons x a =>
      obtain ⟨hk, h1, h2, h3⟩ := ha.bound
      rw [if_pos (.inl (by rw [kindL_cons]; exact hk.nn))]
      by_cases c1 : x.f0 = 1
      · obtain ⟨hr, he⟩ := ha.all
        rw [if_pos (by rw [kindL_cons]; exact c1), ha.left]
        rw [un1 c1] at he
        rw [he] at hl hz hm hy ⊢
        simp only [List.length_append, List.length_replicate] at hz hm hy
        obtain ⟨hw, hE⟩ := put_ok (kind := 1) (n := x.f1 - ua) hs (.inr (.inl rfl)) (by omega) (by omega)
        obtain ⟨hw', hE'⟩ := put_ok (kind := 0) (n := x.f1 - ua) ht (.inl rfl) (by omega) (by omega)
        have hwl := hE.len
        have hwl' := hE'.len
        simp only [List.length_append, List.length_replicate] at hwl hwl'
        obtain ⟨s', t', p, q, e1, e2, e3, e4, e5⟩ := pairL_ok m _ _ b ub _ _ hr hb hw hw' (by rw [bef_app, bef_rep_a] at hl; omega) (by omega) (by omega) (by omega)
        refine ⟨s', t', _, _, e1, e2.addp_n (x.f1 - ua).toNat, e3.trans ?_, e4.trans ?_, e5⟩
        · rw [← List.append_assoc]; exact hE.app (E.refl _)
        · rw [← List.append_assoc]; exact hE'.app (E.refl _)
      rw [if_neg (by rw [kindL_cons]; exact c1)]
      rw [kindL_cons] at dadd
      have d1 : kindL b ≠ 1 := fun e => dadd ⟨e, c1⟩
      rw [if_neg d1]
      cases b with
      | nil =>
        exfalso
        obtain ⟨hr, he⟩ := ha.all
        rw [exR_nil, bef_nil, he, bef_app, bef_rep] at hl
        rcases hk with e | e | e
        · rw [un0 e] at hl; simp only [Un.isB, ↓reduceIte] at hl; omega
        · exact c1 e
        · rw [un2 e] at hl; simp only [Un.isB, ↓reduceIte] at hl; omega
      | cons z b =>
        obtain ⟨hk', h1', h2', h3'⟩ := hb.bound
        rw [kindL_cons] at d1
        rw [if_neg (by rw [kindL_cons]; simp only [List.length_cons]; have := hk.nn; omega), ha.left, hb.left, kindL_cons, kindL_cons]
        obtain ⟨n, hn⟩ : ∃ n, n = mn (x.f1 - ua) (z.f1 - ub) := ⟨_, rfl⟩
        have hmn := mn_le (x.f1 - ua) (z.f1 - ub)
        rw [← hn] at hmn ⊢
        clear hn
        obtain ⟨hr, he⟩ := ha.take (n := n) (by omega) (by omega)
        obtain ⟨hr', he'⟩ := hb.take (n := n) (by omega) (by omega)
        rw [he, he'] at hl hz hm hy ⊢
        simp only [List.length_append, List.length_replicate] at hz hm hy
        have kx : x.f0 = 0 ∨ x.f0 = 2 := by rcases hk with e | e | e <;> first | exact .inl e | exact .inr e | exact absurd e c1
        have kz : z.f0 = 0 ∨ z.f0 = 2 := by rcases hk' with e | e | e <;> first | exact .inl e | exact .inr e | exact absurd e d1
        have hl2 : bef (exR (takeL (x :: a) ua n) (takeU (x :: a) ua n)) = bef (exR (takeL (z :: b) ub n) (takeU (z :: b) ub n)) := by
          rw [bef_app, bef_app, bef_rep, bef_rep] at hl
          rcases kx with e | e <;> rcases kz with e' | e'
          · rw [un0 e, un0 e'] at hl; simp only [Un.isB, ↓reduceIte] at hl; omega
          · rw [un0 e, un2 e'] at hl; simp only [Un.isB, ↓reduceIte] at hl; omega
          · rw [un2 e, un0 e'] at hl; simp only [Un.isB, ↓reduceIte] at hl; omega
          · rw [un2 e, un2 e'] at hl; simp only [Un.isB, ↓reduceIte] at hl; omega
        obtain ⟨hw, hE⟩ := put_ok (kind := x.f0) (n := n) hs hk (by omega) (by omega)
        obtain ⟨hw', hE'⟩ := put_ok (kind := z.f0) (n := n) ht hk' (by omega) (by omega)
        have hwl := hE.len
        have hwl' := hE'.len
        simp only [List.length_append, List.length_replicate] at hwl hwl'
        rcases kx with e | e <;> rcases kz with e' | e'
        · rw [if_pos e, if_pos e']
          obtain ⟨s', t', p, q, e1, e2, e3, e4, e5⟩ := pairL_ok m _ _ _ _ _ _ hr hr' hw hw' hl2 (by omega) (by omega) (by omega)
          rw [un0 e] at hE ⊢
          rw [un0 e'] at hE' ⊢
          refine ⟨s', t', _, _, e1, e2.kk_n _, e3.trans ?_, e4.trans ?_, e5⟩
          · rw [← List.append_assoc]; exact hE.app (E.refl _)
          · rw [← List.append_assoc]; exact hE'.app (E.refl _)
        · rw [if_pos e, if_neg (show ¬ z.f0 = 0 by omega)]
          obtain ⟨s', t', p, q, e1, e2, e3, e4, e5⟩ := pairL_ok m _ _ _ _ _ _ hr hr' hs hw' hl2 (by omega) (by omega) (by omega)
          rw [un0 e] at hE ⊢
          rw [un2 e'] at hE' ⊢
          refine ⟨s', t', _, _, e1, e2.kc_n _, e3, e4.trans ?_, e5⟩
          · rw [← List.append_assoc]; exact hE'.app (E.refl _)
        · rw [if_neg (show ¬ x.f0 = 0 by omega), if_pos e']
          obtain ⟨s', t', p, q, e1, e2, e3, e4, e5⟩ := pairL_ok m _ _ _ _ _ _ hr hr' hw ht hl2 (by omega) (by omega) (by omega)
          rw [un2 e] at hE ⊢
          rw [un0 e'] at hE' ⊢
          refine ⟨s', t', _, _, e1, e2.ck_n _, e3.trans ?_, e4, e5⟩
          · rw [← List.append_assoc]; exact hE.app (E.refl _)
        · rw [if_neg (show ¬ x.f0 = 0 by omega), if_neg (show ¬ z.f0 = 0 by omega)]
          obtain ⟨s', t', p, q, e1, e2, e3, e4, e5⟩ := pairL_ok m _ _ _ _ _ _ hr hr' hs ht hl2 (by omega) (by omega) (by omega)
          rw [un2 e] at hE ⊢
          rw [un2 e'] at hE' ⊢
          exact ⟨s', t', _, _, e1, e2.cc_n _, e3, e4, e5⟩
end Go.Proofs.Ytdgemabmmomebaa.PAxis

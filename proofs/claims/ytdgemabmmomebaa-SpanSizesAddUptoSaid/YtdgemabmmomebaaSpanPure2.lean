/- What merged makes of two canonical sets: the canonical set of what is wanted. -/
import Derived.Test.YtdgemabmmomebaaSpanPure1
namespace Go.Proofs.Ytdgemabmmomebaa.PSpan
open Go.RowKit Go.Proofs.YtdgemabmmomebaaW.PrintWords Go.Proofs.YtdgemabmmomebaaW.PrintLast Go.Proofs.YtdgemabmmomebaaW.PrintMore
set_option linter.unusedVariables false

/-! ### the ends -/
def E (l : List S29) (i : Int) : Int := if i % 2 = 0 then (rd_T29 l (i / 2)).f0 else (rd_T29 l (i / 2)).f1
theorem end_f {l : List S29} {i : Int} (h0 : 0 ≤ i) (h1 : i < 2 * (l.length : Int)) (hl : l.length ≤ 1099511627776) : span_end.f l i = some (E l i) := by
  unfold span_end.f E
  rw [Int.tmod_eq_emod_of_nonneg h0, Int.tdiv_eq_ediv_of_nonneg h0, wrap_in (by omega) (by omega)]
  by_cases c : i % 2 = 0
  · rw [if_pos c, if_pos c, if_pos (by omega), if_pos (by omega)]
  · rw [if_neg c, if_neg c, if_pos (by omega), if_pos (by omega)]
theorem E_even {l : List S29} (q : Int) : E l (2 * q) = (rd_T29 l q).f0 := by
  unfold E; rw [if_pos (by omega), show 2 * q / 2 = q by omega]
theorem E_odd {l : List S29} (q : Int) : E l (2 * q + 1) = (rd_T29 l q).f1 := by
  unfold E; rw [if_neg (by omega), show (2 * q + 1) / 2 = q by omega]
theorem E_next {l : List S29} (h : Canon l) {i : Int} (h0 : 0 ≤ i) (h1 : i + 1 < 2 * (l.length : Int)) : E l i < E l (i + 1) := by
  have hel := el_of_canon l h
  rcases (show i % 2 = 0 ∨ i % 2 = 1 by omega) with c | c
  · obtain ⟨q, rfl⟩ : ∃ q, i = 2 * q := ⟨i / 2, by omega⟩
    rw [E_even, E_odd]
    exact (hel q (by omega) (by omega)).1.2.1
  · obtain ⟨q, rfl⟩ : ∃ q, i = 2 * q + 1 := ⟨i / 2, by omega⟩
    rw [E_odd, show 2 * q + 1 + 1 = 2 * (q + 1) by omega, E_even]
    have := (hel (q + 1) (by omega) (by omega)).2 (by omega)
    rwa [show q + 1 - 1 = q by omega] at this
theorem E_mono {l : List S29} (h : Canon l) {i j : Int} (h0 : 0 ≤ i) (hij : i < j) (h1 : j < 2 * (l.length : Int)) : E l i < E l j := by
  obtain ⟨d, hd⟩ : ∃ d : Nat, j = i + 1 + d := ⟨(j - i - 1).toNat, by omega⟩
  subst hd
  clear hij
  induction d with
  | zero => rw [show i + 1 + ((0 : Nat) : Int) = i + 1 by omega]; exact E_next h h0 (by omega)
  | succ d ih =>
    have a := ih (by omega)
    have b := E_next h (i := i + 1 + (d : Int)) (by omega) (by omega)
    rw [show i + 1 + ((d + 1 : Nat) : Int) = i + 1 + (d : Int) + 1 by omega]
    omega
theorem E_bd {l : List S29} (h : Canon l) {i : Int} (h0 : 0 ≤ i) (h1 : i < 2 * (l.length : Int)) : 0 ≤ E l i ∧ E l i ≤ 2147483647 := by
  have := (el_of_canon l h (i / 2) (by omega) (by omega)).1
  obtain ⟨a, b, c⟩ := this
  unfold E
  split <;> omega
/-- Between two ends the state is constant. -/
theorem mem_state {l : List S29} (h : Canon l) {i x : Int} (h0 : 0 ≤ i) (h1 : i ≤ 2 * (l.length : Int)) (hlo : ∀ k, 0 ≤ k → k < i → E l k ≤ x) (hhi : ∀ k, i ≤ k → k < 2 * (l.length : Int) → x < E l k) : mem l x = (i % 2 == 1) := by
  rcases (show i % 2 = 0 ∨ i % 2 = 1 by omega) with c | c
  · rw [c]
    show mem l x = false
    refine mem_none (fun s hs => ?_)
    obtain ⟨q, q0, q1, rfl⟩ := mem_rd hs
    by_cases hq : 2 * q < i
    · left
      have := hlo (2 * q + 1) (by omega) (by omega)
      rwa [E_odd] at this
    · right
      have := hhi (2 * q) (by omega) (by omega)
      rwa [E_even] at this
  · rw [c]
    show mem l x = true
    obtain ⟨q, rfl⟩ : ∃ q, i = 2 * q + 1 := ⟨i / 2, by omega⟩
    refine mem_iff.2 ⟨rd_T29 l q, rd_mem (by omega) (by omega), ?_, ?_⟩
    · have := hlo (2 * q) (by omega) (by omega)
      rwa [E_even] at this
    · have := hhi (2 * q + 1) (by omega) (by omega)
      rwa [E_odd] at this

/-! ### add -/
theorem add_spec {out : List S29} {at_ nx : Int} (h : Canon out) (hat : ∀ s ∈ out, s.f1 ≤ at_) (h0 : 0 ≤ at_) (h1 : at_ < nx) (h2 : nx ≤ 2147483647) (hl : out.length ≤ 1099511627776) :
    ∃ out', span_add.f out at_ nx = some out' ∧ Canon out' ∧ (∀ s ∈ out', s.f1 ≤ nx) ∧ (∀ x, mem out' x = (mem out x || ins ⟨at_, nx⟩ x)) ∧ out'.length ≤ out.length + 1 := by
  have happ : (∀ s ∈ out, s.f1 < at_) → Canon (out ++ [⟨at_, nx⟩]) := fun hlt => by
    refine ⟨fun s hs => ?_, ?_⟩
    · rcases List.mem_append.1 hs with hs | hs
      · exact h.1 s hs
      · rw [List.mem_singleton.1 hs]; exact ⟨h0, h1, h2⟩
    · rw [List.pairwise_append]
      exact ⟨h.2, List.pairwise_singleton _ _, fun s hs t ht => by rw [List.mem_singleton.1 ht]; exact hlt s hs⟩
  have hmem : ∀ x, mem (out ++ [⟨at_, nx⟩]) x = (mem out x || ins ⟨at_, nx⟩ x) := fun x => by simp [mem]
  rcases List.eq_nil_or_concat out with hnil | ⟨init, s, hout⟩
  · subst hnil
    refine ⟨[⟨at_, nx⟩], ?_, happ (fun s hs => by cases hs), fun s hs => by rw [List.mem_singleton.1 hs]; exact Int.le_refl _, hmem, by simp⟩
    unfold span_add.f
    have e : wrap64 ((([] : List S29).length : Int) - 1) = -1 := by unfold wrap64; decide
    rw [e, if_neg (by decide), if_pos (by decide)]
    rfl
  · rw [List.concat_eq_append] at hout
    have hsm : s ∈ out := by rw [hout]; simp
    have hlen : (out.length : Int) = init.length + 1 := by rw [hout]; simp
    have hw : wrap64 ((out.length : Int) - 1) = init.length := by rw [wrap_in (by omega) (by omega)]; omega
    have hrd : rd_T29 out (init.length : Int) = s := by rw [rd_get (by omega) (by omega)]; simp [hout]
    have hle := hat s hsm
    unfold span_add.f
    rw [hw, if_pos (by omega), if_pos (by omega), if_pos (by omega), hrd]
    by_cases c : at_ ≤ s.f1
    · have e : s.f1 = at_ := by omega
      rw [if_pos c]
      have hmx : mx s.f1 nx = nx := by unfold mx; rw [if_pos (by omega)]
      have hset : out.set ((init.length : Int)).toNat ⟨s.f0, mx s.f1 nx⟩ = init ++ [⟨s.f0, nx⟩] := by rw [hmx, hout]; simp
      rw [hset]
      have hs := h.1 s hsm
      have hp := h.2
      rw [hout, List.pairwise_append] at hp
      have hin : ∀ t ∈ init, t.f1 < s.f0 := fun t ht => hp.2.2 t ht s (by simp)
      refine ⟨_, rfl, ⟨fun t ht => ?_, ?_⟩, fun t ht => ?_, fun x => ?_, by rw [hout]; simp⟩
      · rcases List.mem_append.1 ht with ht | ht
        · exact h.1 t (by rw [hout]; exact List.mem_append_left _ ht)
        · rw [List.mem_singleton.1 ht]; exact ⟨hs.1, by show s.f0 < nx; have := hs.2.1; omega, h2⟩
      · rw [List.pairwise_append]
        exact ⟨hp.1, List.pairwise_singleton _ _, fun t ht u hu => by rw [List.mem_singleton.1 hu]; exact hin t ht⟩
      · rcases List.mem_append.1 ht with ht | ht
        · have := hat t (by rw [hout]; exact List.mem_append_left _ ht); omega
        · rw [List.mem_singleton.1 ht]; exact Int.le_refl _
      · rw [hout]
        have e2 : ins ⟨s.f0, nx⟩ x = (ins s x || ins ⟨at_, nx⟩ x) := by
          have := hs.2.1
          rw [Bool.eq_iff_iff, Bool.or_eq_true, ins_iff, ins_iff, ins_iff]
          simp only
          omega
        simp [mem, e2, Bool.or_assoc]
    · rw [if_neg c, if_pos (by omega)]
      refine ⟨_, rfl, happ (fun t ht => ?_), fun t ht => ?_, hmem, by simp⟩
      · rw [hout] at ht
        rcases List.mem_append.1 ht with ht' | ht'
        · have hp := h.2
          rw [hout, List.pairwise_append] at hp
          have := hp.2.2 t ht' s (by simp)
          have := (h.1 s hsm).2.1
          omega
        · rw [List.mem_singleton.1 ht']; omega
      · rcases List.mem_append.1 ht with ht | ht
        · have := hat t ht; omega
        · rw [List.mem_singleton.1 ht]; exact Int.le_refl _

/-! ### skip -/
theorem skip_spec {l : List S29} (h : Canon l) (hl : l.length ≤ 1099511627776) {nx i : Int} (h0 : 0 ≤ i) (h1 : i ≤ 2 * (l.length : Int)) (hhi : ∀ k, i ≤ k → k < 2 * (l.length : Int) → nx ≤ E l k) (k : Nat) :
    ∃ i', skipF l nx (k + 2) i = some i' ∧ i ≤ i' ∧ i' ≤ 2 * (l.length : Int) ∧ (∀ q, i ≤ q → q < i' → E l q ≤ nx) ∧ (∀ q, i' ≤ q → q < 2 * (l.length : Int) → nx < E l q) ∧ (i < 2 * (l.length : Int) → E l i = nx → i < i') := by
  by_cases c : i < 2 * (l.length : Int)
  · by_cases e : E l i = nx
    · have hgt : ∀ q, i + 1 ≤ q → q < 2 * (l.length : Int) → nx < E l q := fun q q0 q1 => by rw [← e]; exact E_mono h h0 (by omega) q1
      refine ⟨i + 1, ?_, by omega, by omega, fun q q0 q1 => by rw [show q = i by omega, e]; exact Int.le_refl _, hgt, fun _ _ => by omega⟩
      rw [skipF, if_pos c, end_f h0 c hl]
      show (if E l i = nx then skipF l nx (k + 1) (i + 1) else some i) = _
      rw [if_pos e, skipF]
      by_cases c2 : i + 1 < 2 * (l.length : Int)
      · rw [if_pos c2, end_f (by omega) c2 hl]
        show (if E l (i + 1) = nx then skipF l nx k (i + 1 + 1) else some (i + 1)) = _
        rw [if_neg (by have := hgt (i + 1) (by omega) c2; omega)]
      · rw [if_neg c2]
    · refine ⟨i, ?_, by omega, h1, fun q q0 q1 => by omega, fun q q0 q1 => ?_, fun _ h => absurd h e⟩
      · rw [skipF, if_pos c, end_f h0 c hl]
        show (if E l i = nx then skipF l nx (k + 1) (i + 1) else some i) = _
        rw [if_neg e]
      · have a := hhi i (by omega) c
        rcases Int.lt_or_eq_of_le q0 with q2 | q2
        · have := E_mono h h0 q2 q1; omega
        · subst q2; omega
  · refine ⟨i, ?_, by omega, h1, fun q q0 q1 => by omega, fun q q0 q1 => by omega, fun h => absurd h c⟩
    rw [skipF, if_neg c]

/-! ### merged -/
theorem mrg_spec (W : Bool → Bool → Bool) (hW : W false false = false) {a b : List S29} (ha : Canon a) (hb : Canon b) (la : a.length ≤ 1073741824) (lb : b.length ≤ 1073741824) : ∀ (d k : Nat) (out : List S29) (at_ i j : Int),
    0 ≤ i → i ≤ 2 * (a.length : Int) → 0 ≤ j → j ≤ 2 * (b.length : Int) → (2 * (a.length : Int) - i) + (2 * (b.length : Int) - j) ≤ d → d + 3 ≤ k →
    0 ≤ at_ → (∀ q, 0 ≤ q → q < i → E a q ≤ at_) → (∀ q, i ≤ q → q < 2 * (a.length : Int) → at_ ≤ E a q) → (∀ q, 0 ≤ q → q < j → E b q ≤ at_) → (∀ q, j ≤ q → q < 2 * (b.length : Int) → at_ ≤ E b q) →
    Canon out → (∀ s ∈ out, s.f1 ≤ at_) → (∀ x, 0 ≤ x → x < at_ → mem out x = W (mem a x) (mem b x)) → (out.length : Int) ≤ i + j + 1 →
    ∃ r, mrgL W a b k out at_ i j = some r ∧ Canon r ∧ ∀ x, 0 ≤ x → mem r x = W (mem a x) (mem b x) := by
  intro d
  induction d with
  | zero =>
    intro k out at_ i j i0 i1 j0 j1 hd hk a0 hai hai' hbj hbj' hc hat hm hlen
    obtain ⟨k, rfl⟩ : ∃ m, k = m + 1 := ⟨k - 1, by omega⟩
    refine ⟨out, by rw [mrgL, if_neg (by omega)], hc, fun x x0 => ?_⟩
    by_cases hx : x < at_
    · exact hm x x0 hx
    · rw [mem_none (l := out) (fun s hs => .inl (by have := hat s hs; omega))]
      rw [mem_state ha (i := i) i0 i1 (fun q q0 q1 => by have := hai q q0 q1; omega) (fun q q0 q1 => by omega), mem_state hb (i := j) j0 j1 (fun q q0 q1 => by have := hbj q q0 q1; omega) (fun q q0 q1 => by omega)]
      rw [show i % 2 = 0 by omega, show j % 2 = 0 by omega]
      exact hW.symm
  | succ d ih =>
    intro k out at_ i j i0 i1 j0 j1 hd hk a0 hai hai' hbj hbj' hc hat hm hlen
    obtain ⟨k, rfl⟩ : ∃ m, k = m + 2 + 1 := ⟨k - 3, by omega⟩
    by_cases hend : i < 2 * (a.length : Int) ∨ j < 2 * (b.length : Int)
    · -- the next end
      obtain ⟨nx, hn, n1, n2, n3, n4, n5⟩ : ∃ nx : Int, ((next1 a i).bind fun n1 => next2 b j n1) = some nx ∧ at_ ≤ nx ∧ nx ≤ 2147483647 ∧ (∀ q, i ≤ q → q < 2 * (a.length : Int) → nx ≤ E a q) ∧ (∀ q, j ≤ q → q < 2 * (b.length : Int) → nx ≤ E b q) ∧
          ((i < 2 * (a.length : Int) ∧ E a i = nx) ∨ (j < 2 * (b.length : Int) ∧ E b j = nx)) := by
        have up : ∀ {l : List S29} {i : Int}, Canon l → 0 ≤ i → ∀ q, i ≤ q → q < 2 * (l.length : Int) → E l i ≤ E l q := fun hl h0 q q0 q1 => by
          rcases Int.lt_or_eq_of_le q0 with h | h
          · have := E_mono hl h0 h q1; omega
          · subst h; exact Int.le_refl _
        by_cases ca : i < 2 * (a.length : Int)
        · have ea := E_bd ha i0 ca
          by_cases cb : j < 2 * (b.length : Int)
          · have eb := E_bd hb j0 cb
            refine ⟨mn (E a i) (E b j), ?_, ?_, ?_, ?_, ?_, ?_⟩
            · rw [next1, if_pos ca, end_f i0 ca (by omega)]
              show next2 b j (E a i) = _
              rw [next2, if_pos cb, end_f j0 cb (by omega)]
              rfl
            · have := hai' i (by omega) ca; have := hbj' j (by omega) cb; unfold mn; split <;> omega
            · unfold mn; split <;> omega
            · intro q q0 q1; have := up ha i0 q q0 q1; unfold mn; split <;> omega
            · intro q q0 q1; have := up hb j0 q q0 q1; unfold mn; split <;> omega
            · unfold mn
              by_cases hlt : E b j < E a i
              · rw [if_pos hlt]; exact .inr ⟨cb, rfl⟩
              · rw [if_neg hlt]; exact .inl ⟨ca, rfl⟩
          · refine ⟨E a i, ?_, hai' i (by omega) ca, ea.2, up ha i0, fun q q0 q1 => by omega, .inl ⟨ca, rfl⟩⟩
            rw [next1, if_pos ca, end_f i0 ca (by omega)]
            show next2 b j (E a i) = _
            rw [next2, if_neg cb]
        · have cb : j < 2 * (b.length : Int) := hend.resolve_left ca
          have eb := E_bd hb j0 cb
          refine ⟨E b j, ?_, hbj' j (by omega) cb, eb.2, fun q q0 q1 => by omega, up hb j0, .inr ⟨cb, rfl⟩⟩
          rw [next1, if_neg ca]
          show next2 b j 2147483648 = _
          rw [next2, if_pos cb, end_f j0 cb (by omega)]
          show some (mn 2147483648 (E b j)) = _
          unfold mn
          rw [if_pos (by omega)]
      -- what is added
      have st : ∀ x, at_ ≤ x → x < nx → mem a x = (i % 2 == 1) ∧ mem b x = (j % 2 == 1) := fun x x0 x1 =>
        ⟨mem_state ha i0 i1 (fun q q0 q1 => by have := hai q q0 q1; omega) (fun q q0 q1 => by have := n3 q q0 q1; omega),
          mem_state hb j0 j1 (fun q q0 q1 => by have := hbj q q0 q1; omega) (fun q q0 q1 => by have := n4 q q0 q1; omega)⟩
      obtain ⟨out', ho, o1, o2, o3, o4⟩ : ∃ out', step3 W out at_ nx i j = some out' ∧ Canon out' ∧ (∀ s ∈ out', s.f1 ≤ nx) ∧ (∀ x, 0 ≤ x → x < nx → mem out' x = W (mem a x) (mem b x)) ∧ out'.length ≤ out.length + 1 := by
        have keep : ∀ x, at_ ≤ x → mem out x = false := fun x hx => mem_none (fun s hs => .inl (by have := hat s hs; omega))
        unfold step3
        by_cases c1 : at_ < nx
        · rw [if_pos c1]
          by_cases c2 : W (i % 2 == 1) (j % 2 == 1) = true
          · rw [if_pos c2]
            obtain ⟨out', p1, p2, p3, p4, p5⟩ := add_spec hc hat a0 c1 n2 (by omega)
            refine ⟨out', p1, p2, p3, fun x x0 x1 => ?_, p5⟩
            rw [p4]
            by_cases hx : x < at_
            · rw [hm x x0 hx, show ins ⟨at_, nx⟩ x = false by rw [Bool.eq_false_iff]; intro h; have := (ins_iff.1 h).1; simp only at this; omega, Bool.or_false]
            · rw [keep x (by omega), (st x (by omega) x1).1, (st x (by omega) x1).2, c2, show ins ⟨at_, nx⟩ x = true from ins_iff.2 ⟨by simp only; omega, x1⟩]
              rfl
          · rw [if_neg c2]
            refine ⟨out, rfl, hc, fun s hs => by have := hat s hs; omega, fun x x0 x1 => ?_, by omega⟩
            by_cases hx : x < at_
            · exact hm x x0 hx
            · rw [keep x (by omega), (st x (by omega) x1).1, (st x (by omega) x1).2, Bool.eq_false_iff.2 c2]
        · rw [if_neg c1]
          exact ⟨out, rfl, hc, fun s hs => by have := hat s hs; omega, fun x x0 x1 => hm x x0 (by omega), by omega⟩
      obtain ⟨i', hi, p1, p2, p3, p4, p5⟩ := skip_spec ha (by omega) i0 i1 n3 k
      obtain ⟨j', hj, q1, q2, q3, q4, q5⟩ := skip_spec hb (by omega) j0 j1 n4 k
      have less : i < i' ∨ j < j' := n5.imp (fun h => p5 h.1 h.2) (fun h => q5 h.1 h.2)
      have hrun : mrgL W a b (k + 2 + 1) out at_ i j = mrgL W a b (k + 2) out' nx i' j' := by
        rw [mrgL, if_pos hend]
        obtain ⟨n1', h1, h2⟩ := Option.bind_eq_some_iff.1 hn
        rw [h1]
        show ((next2 b j n1').bind fun nx => _) = _
        rw [h2]
        show ((step3 W out at_ nx i j).bind fun out' => _) = _
        rw [ho]
        show ((skipF a nx (k + 2) i).bind fun i' => _) = _
        rw [hi]
        show ((skipF b nx (k + 2) j).bind fun j' => _) = _
        rw [hj]
        rfl
      rw [hrun]
      refine ih (k + 2) out' nx i' j' (by omega) p2 (by omega) q2 (by omega) (by omega) (by omega) (fun q z0 z1 => ?_) (fun q z0 z1 => by have := p4 q z0 z1; omega) (fun q z0 z1 => ?_) (fun q z0 z1 => by have := q4 q z0 z1; omega) o1 o2 o3 (by omega)
      · by_cases hq : q < i
        · have := hai q z0 hq; omega
        · exact p3 q (by omega) z1
      · by_cases hq : q < j
        · have := hbj q z0 hq; omega
        · exact q3 q (by omega) z1
    · exact ih (k + 2 + 1) out at_ i j i0 i1 j0 j1 (by omega) (by omega) a0 hai hai' hbj hbj' hc hat hm hlen
theorem mrg_ev (W : Bool → Bool → Bool) (hW : W false false = false) {a b : List S29} (ha : Canon a) (hb : Canon b) (la : a.length ≤ 1073741824) (lb : b.length ≤ 1073741824) :
    ∃ r, Ev (fun k => mrgL W a b k [] 0 0 0) r ∧ Canon r ∧ ∀ x, 0 ≤ x → mem r x = W (mem a x) (mem b x) := by
  obtain ⟨r, h1, h2, h3⟩ := mrg_spec W hW ha hb la lb (2 * a.length + 2 * b.length) (2 * a.length + 2 * b.length + 3) [] 0 0 0 (by omega) (by omega) (by omega) (by omega) (by omega) (by omega) (by omega)
    (fun q z0 z1 => by omega) (fun q z0 z1 => (E_bd ha z0 z1).1) (fun q z0 z1 => by omega) (fun q z0 z1 => (E_bd hb z0 z1).1) ⟨(fun s hs => by cases hs), List.Pairwise.nil⟩ (fun s hs => by cases hs) (fun x x0 x1 => by omega) (by simp)
  exact ⟨r, Ev.of (fun k => mrgL_mono W a b k _ _ _ _) h1, h2, h3⟩
end Go.Proofs.Ytdgemabmmomebaa.PSpan

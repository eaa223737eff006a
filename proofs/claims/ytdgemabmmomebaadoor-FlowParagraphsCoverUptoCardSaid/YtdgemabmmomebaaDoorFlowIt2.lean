/- The contract of the law on paragraphs. -/
import Derived.Test.YtdgemabmmomebaaDoorFlowIt1
import Derived.Test.YtdgemabmmomebaaDoorPFlowx10
import Derived.RangeFuncFrom
namespace Go.Proofs.YtdgemabmmomebaaDoor.PFlow
open Go.RowKit Go.Shelf Go.Proofs.YtdgemabmmomebaaDoorW.PrintWords Go.Proofs.YtdgemabmmomebaaDoorW.PrintLast Go.Proofs.YtdgemabmmomebaaDoorW.PrintMore
set_option linter.unusedVariables false
set_option linter.unusedSimpArgs false
attribute [local go_sem] Oper.semAt_some
attribute [local go_sem] max2_int min2_int max_two min_two

theorem pars_in (F : Fence) (n : Nat) (h15 : F.fn 15) (hro : F.round = none) (a : Option Addr) (len cap : Nat) (w : World) :
    CallsIn F n Tryd.prog 15 #[.slice a len cap] w fun e w' => e = .returned (.func (.func 26) #[] #[.pointer (some ⟨w.heap.size, 0, none⟩)]) ∧ w' = w.alloc (.cells #[.slice a len cap] 24) := by
  refine callsIn_of_wp Tryd.func15 rfl h15 ?_ hro
  simp only [Tryd.ntmps15, List.size_toArray, List.length_cons, List.length_nil, Nat.reduceAdd, Nat.reduceSub, Array.replicate_succ, Array.replicate_zero, List.push_toArray, List.append_toArray, List.nil_append, List.cons_append]
  gi_wp2
  go_ret
  exact ⟨rfl, rfl⟩
theorem pars_stops (F : Fence) (n : Nat) (h26 : F.fn 26) (hro : F.round = none) (hn : 1 ≤ n) (Bs : Nat) (w0 : World) (A : Option Addr) (c : Nat) (ls : List S31) (hlen : ls.length ≤ 1048576) (hC : Kd.C k31 w0 A ls.length ls) (w : World) (hB : Below w0.heap.size w0 w) (hBs : Bs < w.heap.size) (hc : w.cell? ⟨Bs, 0, none⟩ = some (.slice A ls.length c)) :
    SeqStopsK F n Tryd.prog 26 #[.pointer (some ⟨Bs, 0, none⟩)] (fun x : Nat × Nat => #[Value.int .i64 (x.1 : Int), Value.int .i64 (x.2 : Int)]) (Below w0.heap.size) (fun ys => ys = parsFrom 0 0 ls) (fun pre => pre <+: parsFrom 0 0 ls) ls.length w := fun l J Jx W hW hJ _ hY h0 =>
  iter_in F n h26 hro hn l Bs w0 A c ls hlen hC J Jx hY W (below_step hB hW) hJ ((hW.cell (p := ⟨Bs, 0, none⟩) hBs).trans hc) h0

/-- Where the last paragraph ends. -/
def lastTo (pre : List (Nat × Nat)) : Nat := (pre.getLast?.map Prod.snd).getD 0
theorem lastTo_snoc (pre : List (Nat × Nat)) (x : Nat × Nat) : lastTo (pre ++ [x]) = x.2 := by simp [lastTo]
def OkP (ls : List S31) (at_ : Nat) (x : Nat × Nat) : Prop := x.1 = at_ ∧ x.1 < x.2 ∧ x.2 ≤ ls.length ∧ (rd_T31 ls ((x.2 : Int) - 1)).f0 = 10
def Chain (ls : List S31) (pre : List (Nat × Nat)) : Prop := ∀ p x q, pre = p ++ x :: q → OkP ls (lastTo p) x
theorem Chain.pre {ls : List S31} {pre all : List (Nat × Nat)} (h : Chain ls all) (hp : pre <+: all) : Chain ls pre := by
  obtain ⟨t, rfl⟩ := hp
  intro p x q e
  exact h p x (q ++ t) (by rw [e]; simp)

set_option maxRecDepth 100000 in
set_option maxHeartbeats 16000000 in
theorem cover_calls (k : Nat) (A0 : Option Addr) (c0 : Nat) (l0 : List S31) (x0 : Int) (w : World) (hlen : l0.length ≤ 1048576) (hr0 : Kd.C k31 w A0 l0.length l0) (hc0 : l0.length ≤ c0) (hflows : chancerykeep1_flows.f k = some true) (cc : Int) (hcheck : flow_Check.f k l0 true = some cc)
    (stop : Int) (hstop : chanceryref1_Within.f x0 0 5 = some stop) (hs0 : 0 ≤ stop ∧ stop ≤ 5) (hG : Glob w) (hch : Chain l0 (parsFrom 0 0 l0)) (hpl : (parsFrom 0 0 l0).length ≤ l0.length) (hall : cc = 0 → lastTo (parsFrom 0 0 l0) = l0.length ∧ (parsFrom 0 0 l0).length ≠ 0) :
    Calls Tryd.prog 5 #[.slice A0 l0.length c0, .int .i64 x0] w fun e w' => e = .returned (.bool true) ∧ Below w.heap.size w w' := by
  refine (callsIn_wide (n := 5)).1 ?_
  refine callsIn_of_wp_marks Tryd.func5 rfl trivial ?_ rfl
  simp only [Tryd.ntmps5, List.size_toArray, List.length_cons, List.length_nil, Nat.reduceAdd, Nat.reduceSub, Array.replicate_succ, Array.replicate_zero, List.push_toArray, List.append_toArray, List.nil_append, List.cons_append]
  have hB3 : Below w.heap.size w (((w.alloc (.cells #[.slice A0 l0.length c0] 24)).alloc (.cells #[.int .i64 x0] 3)).alloc (.cells #[.bool false] 4)) := below_alloc (below_alloc (below_alloc (Below.refl _ _) _) _) _
  have d2 : (((w.alloc (.cells #[.slice A0 l0.length c0] 24)).alloc (.cells #[.int .i64 x0] 3)).alloc (.cells #[.bool false] 4)).heap[w.heap.size]? = some (.cells #[.slice A0 l0.length c0] 24 (0, 0)) := blk_alloc (blk_alloc (blk_new w _) _) _
  have d3 : (((w.alloc (.cells #[.slice A0 l0.length c0] 24)).alloc (.cells #[.int .i64 x0] 3)).alloc (.cells #[.bool false] 4)).heap[w.heap.size + 1]? = some (.cells #[.int .i64 x0] 3 (0, 0)) := by
    have := blk_new (w.alloc (.cells #[.slice A0 l0.length c0] 24)) (.cells #[.int .i64 x0] 3)
    rw [World.size_alloc] at this
    exact blk_alloc this _
  have d4 : (((w.alloc (.cells #[.slice A0 l0.length c0] 24)).alloc (.cells #[.int .i64 x0] 3)).alloc (.cells #[.bool false] 4)).heap[w.heap.size + 1 + 1]? = some (.cells #[.bool false] 4 (0, 0)) := by
    have := blk_new ((w.alloc (.cells #[.slice A0 l0.length c0] 24)).alloc (.cells #[.int .i64 x0] 3)) (.cells #[.bool false] 4)
    rw [World.size_alloc, World.size_alloc] at this
    exact this
  gi_wp2_with (refine ⟨trivial, ?_⟩; gi_at_call 6; refine (callsIn_wide.2 (chancerykeep1_flows.calls k true _ hflows (hG.below hB3))).mono ?_; rintro e w1 ⟨rfl, hb⟩; have hz : w.heap.size + 3 ≤ w1.heap.size := (by have := hb.size; simp only [World.size_alloc] at this; omega); have e2 := (hb.block _ (blk_lt d2)).trans d2; have e3 := (hb.block _ (blk_lt d3)).trans d3; have e4 := (hb.block _ (blk_lt d4)).trans d4; have c2 : ∀ o o', ((w1.alloc o).alloc o').cell? ⟨w.heap.size, 0, none⟩ = some (.slice A0 l0.length c0) := (fun o o' => (blk_cell (blk_alloc (blk_alloc e2 o) o') 0).trans rfl); have hB1 := below_step hB3 hb; clear hb d2 d3 d4 hB3)
  gi_wp2_with (refine ⟨trivial, ?_⟩; gi_at_call 15; refine (pars_in Fence.wide _ trivial rfl _ _ _ _).mono ?_; rintro e w2 ⟨rfl, rfl⟩)
  clear c2
  obtain ⟨W0, hW0⟩ : ∃ W, W = ((w1.alloc (Obj.cells #[Value.int IntKind.i64 0] 3)).alloc (Obj.cells #[Value.int IntKind.i64 0] 3)).alloc (.cells #[.slice A0 l0.length c0] 24) := ⟨_, rfl⟩
  have hB0 : Below w.heap.size w W0 := by rw [hW0]; exact below_alloc (below_alloc (below_alloc hB1 _) _) _
  have hsz : W0.heap.size = w1.heap.size + 3 := by rw [hW0]; simp only [World.size_alloc]
  have f2 : Boxed W0 w.heap.size 24 (.slice A0 l0.length c0) := by rw [hW0]; exact blk_alloc (blk_alloc (blk_alloc e2 _) _) _
  have f3 : Boxed W0 (w.heap.size + 1) 3 (.int .i64 x0) := by rw [hW0]; exact blk_alloc (blk_alloc (blk_alloc e3 _) _) _
  have f4 : Boxed W0 (w.heap.size + 1 + 1) 4 (.bool false) := by rw [hW0]; exact blk_alloc (blk_alloc (blk_alloc e4 _) _) _
  have f5 : Boxed W0 w1.heap.size 3 (.int .i64 0) := by rw [hW0]; exact blk_alloc (blk_alloc (blk_new w1 _) _) _
  have f6 : Boxed W0 (w1.heap.size + 1) 3 (.int .i64 0) := by
    rw [hW0]
    have := blk_new (w1.alloc (Obj.cells #[Value.int IntKind.i64 0] 3)) (Obj.cells #[Value.int IntKind.i64 0] 3)
    rw [World.size_alloc] at this
    exact blk_alloc this _
  have f7 : Boxed W0 (w1.heap.size + 1 + 1) 24 (.slice A0 l0.length c0) := by
    rw [hW0]
    have := blk_new ((w1.alloc (Obj.cells #[Value.int IntKind.i64 0] 3)).alloc (Obj.cells #[Value.int IntKind.i64 0] 3)) (.cells #[.slice A0 l0.length c0] 24)
    rw [World.size_alloc, World.size_alloc] at this
    exact this
  try rw [← hW0]
  clear hW0 e2 e3 e4
  refine wpIn_rangeFunc_ownF rfl (by decide) (gf := 26) (lb := #[.pointer (some ⟨w1.heap.size + 1 + 1, 0, none⟩)]) rfl trivial (enters_of Tryd.func26 (by kernel_rfl) rfl)
    (pars_stops Fence.wide _ trivial rfl (by decide) (w1.heap.size + 1 + 1) w A0 c0 l0 hlen hr0 W0 hB0 f7.lt f7.cell) belowK_t (belowK_b (by omega)) (Below.refl _ _) (fun _ => rfl)
    (fun pre W => Boxed W w.heap.size 24 (.slice A0 l0.length c0) ∧ Boxed W (w.heap.size + 1) 3 (.int .i64 x0) ∧ Boxed W (w.heap.size + 1 + 1) 4 (.bool false) ∧ Boxed W w1.heap.size 3 (.int .i64 (lastTo pre : Int)) ∧ Boxed W (w1.heap.size + 1) 3 (.int .i64 (pre.length : Int)) ∧ Below w.heap.size w W)
    (fun c pre W => c = .ret ∧ ¬ Chain l0 pre)
    (OwnFrom.and (Own.from (boxed_own _ _ _) _) (OwnFrom.and (Own.from (boxed_own _ _ _) _) (OwnFrom.and (Own.from (boxed_own _ _ _) _) (OwnFrom.and (Own.from (boxed_own _ _ _) _) (OwnFrom.and (Own.from (boxed_own _ _ _) _) (ownFrom_below (Nat.le_refl _) (by omega)))))))
    (fun _ _ _ _ _ hs _ _ => hs)
    ⟨f2, f3, f4, f5, f6, hB0⟩
    (fun x : Nat × Nat => { tmps := #[.slice A0 l0.length c0, .int .i64 x0, .pointer (some ⟨w.heap.size, 0, none⟩), .pointer (some ⟨w.heap.size + 1, 0, none⟩), .pointer (some ⟨w.heap.size + 1 + 1, 0, none⟩), .pointer (some ⟨w1.heap.size, 0, none⟩), .pointer (some ⟨w1.heap.size + 1, 0, none⟩), .int .i64 (x.1 : Int), .int .i64 (x.2 : Int), undef, .bool true, .bool false, .slice A0 l0.length c0, .func (.func 26) #[] #[.pointer (some ⟨w1.heap.size + 1 + 1, 0, none⟩)], .int .i64 (x.1 : Int), .int .i64 (x.2 : Int), undef, undef, undef, undef, undef, undef, undef, undef, undef, undef, undef, undef, undef, undef, undef, undef, undef, undef, undef, undef, undef, undef, undef, undef, undef, undef, undef, undef, undef, undef, undef, undef, undef, undef, undef, undef, undef, undef, undef, undef, undef, undef, undef, undef, undef, undef, undef, undef, undef, undef, undef, undef, undef, undef, undef, undef], defers := [] }) ?assign ?body ?done ?stop
  case assign =>
    intro l x W K hK
    gi_wp2
    exact hK
  case body =>
    rintro l pre x W ⟨b2, b3, b4, b5, b6, hB⟩ hpn
    have c2 := b2.cell
    have c4 := b4.cell
    have c5 := b5.cell
    have c6 := b6.cell
    have fz4 := b4.frozen
    have fz5 := b5.frozen
    have fz6 := b6.frozen
    have bad : ¬ OkP l0 (lastTo pre) x → ¬ Chain l0 (pre ++ [x]) := fun h hc => h (hc pre x [] (by simp))
    obtain ⟨a, b⟩ := x
    dsimp only at bad ⊢
    by_cases h1 : (a : Int) = (lastTo pre : Int)
    rotate_left
    · have h1b : ((a : Int) != (lastTo pre : Int)) = true := bne_iff_ne.mpr h1
      gi_wp2
      exact ⟨KeepsOthers.setCell _ _ _, rfl, bad (fun h => h1 (by rw [show a = lastTo pre from h.1]))⟩
    have h1b : ((a : Int) != (lastTo pre : Int)) = false := by simpa using h1
    by_cases h2 : (b : Int) ≤ (a : Int)
    · have h2b : decide ((b : Int) ≤ (a : Int)) = true := decide_eq_true h2
      have h2c : decide (b ≤ a) = true := decide_eq_true (by omega)
      gi_wp2
      exact ⟨KeepsOthers.setCell _ _ _, rfl, bad (fun h => by have := h.2.1; omega)⟩
    have h2b : decide ((b : Int) ≤ (a : Int)) = false := decide_eq_false h2
    have h2c : decide (b ≤ a) = false := decide_eq_false (by omega)
    by_cases h3 : (l0.length : Int) < (b : Int)
    · have h3b : decide ((l0.length : Int) < (b : Int)) = true := decide_eq_true h3
      have h3c : decide (l0.length < b) = true := decide_eq_true (by omega)
      gi_wp2
      exact ⟨KeepsOthers.setCell _ _ _, rfl, bad (fun h => by have := h.2.2.1; omega)⟩
    have h3b : decide ((l0.length : Int) < (b : Int)) = false := decide_eq_false h3
    have h3c : decide (l0.length < b) = false := decide_eq_false (by omega)
    obtain ⟨y, rfl⟩ : ∃ y, b = y + 1 := ⟨b - 1, by omega⟩
    obtain ⟨ad, A2, cc2, e0, hx0, hx1, hx2, hxl, hxc⟩ := at_T31 hr0 (y : Int) (by omega) (by omega)
    subst e0
    replace hx0 := (hB.cell (World.block_lt_of_cell? w _ hx0)).trans hx0
    simp only [Int.toNat_natCast] at hx0
    clear hx1 hx2 hxl hxc
    have hy : (((y + 1 : Nat) : Int) - 1) = (y : Int) := by omega
    by_cases h4 : (rd_T31 l0 (y : Int)).f0 = 10
    · have h4b : ((rd_T31 l0 (y : Int)).f0 != 10) = false := by simpa using h4
      gi_wp2
      have n5 : ∀ m, m < w.heap.size + 3 → m ≠ w1.heap.size := fun m h => by omega
      have n6 : ∀ m, m < w.heap.size + 3 → m ≠ w1.heap.size + 1 := fun m h => by omega
      refine ⟨(KeepsOthers.setCell _ _ _).trans (KeepsOthers.setCell _ _ _), ((Below.refl w.heap.size W).setCell (p := ⟨w1.heap.size, 0, none⟩) (by show w.heap.size ≤ w1.heap.size; omega) _).setCell (p := ⟨w1.heap.size + 1, 0, none⟩) (by show w.heap.size ≤ w1.heap.size + 1; omega) _,
        (b2.other (n5 _ (by omega)) _).other (n6 _ (by omega)) _, (b3.other (n5 _ (by omega)) _).other (n6 _ (by omega)) _, (b4.other (n5 _ (by omega)) _).other (n6 _ (by omega)) _, ?_, ?_,
        below_set (below_set hB (by show w.heap.size ≤ w1.heap.size; omega)) (by show w.heap.size ≤ w1.heap.size + 1; omega)⟩
      · rw [lastTo_snoc]
        exact Boxed.other (blk_put b5 0 (.int .i64 (((y + 1 : Nat) : Int))) rfl) (by omega) _
      · rw [List.length_append]
        exact blk_put (b6.other (by omega) _) 0 (.int .i64 (((pre.length + 1 : Nat) : Int))) rfl
    · have h4b : ((rd_T31 l0 (y : Int)).f0 != 10) = true := bne_iff_ne.mpr h4
      gi_wp2
      exact ⟨KeepsOthers.setCell _ _ _, rfl, bad (fun h => h4 (by have := h.2.2.2; rwa [hy] at this))⟩
  case done =>
    rintro D ys W hD rfl ⟨b2, b3, b4, b5, b6, hB⟩ hK
    have HD : Aside0 (w.heap.size + 6 ≤ D) := Aside0.mk (by omega)
    have c2 := b2.cell
    obtain ⟨N, hN⟩ : ∃ N, N = (parsFrom 0 0 l0).length := ⟨_, rfl⟩
    obtain ⟨T, hT⟩ : ∃ T, T = lastTo (parsFrom 0 0 l0) := ⟨_, rfl⟩
    rw [← hT] at b5 hall
    rw [← hN] at b6 hall hpl
    have HN := Aside0.mk hN
    clear hN hT
    have hbc : ∀ {W' : World}, Below W.heap.size W W' → W'.cell? ⟨w.heap.size, 0, none⟩ = some (.slice A0 l0.length c0) ∧ W'.cell? ⟨w.heap.size + 1, 0, none⟩ = some (.int .i64 x0) ∧ W'.frozen? ⟨w.heap.size + 1, 0, none⟩ = false ∧ W'.cell? ⟨w1.heap.size, 0, none⟩ = some (.int .i64 (T : Int)) ∧ W'.cell? ⟨w1.heap.size + 1, 0, none⟩ = some (.int .i64 (N : Int)) := fun hb =>
      ⟨Boxed.cell ((hb.block _ b2.lt).trans b2), Boxed.cell ((hb.block _ b3.lt).trans b3), Boxed.frozen ((hb.block _ b3.lt).trans b3), Boxed.cell ((hb.block _ b5.lt).trans b5), Boxed.cell ((hb.block _ b6.lt).trans b6)⟩
    have hCk := flow_Check.calls k A0 c0 l0 true cc W (Kd.C_below hr0 hB) hc0 hcheck
    by_cases hcc : cc = 0
    · have hccb : (cc == 0) = true := beq_iff_eq.mpr hcc
      obtain ⟨ht, hn0⟩ := hall hcc
      have htb : ((T : Int) != (l0.length : Int)) = false := by rw [ht]; simp
      have hnb : ((N : Int) == 0) = false := beq_eq_false_iff_ne.mpr (by omega)
      gi_wp2_with (first
        | (refine ⟨trivial, ?_⟩; gi_at_call 16; refine (callsIn_wide.2 hCk).mono ?_; rintro e W2 ⟨rfl, hb⟩; obtain ⟨q2, q3, z3, q5, q6⟩ := hbc hb)
        | (refine ⟨trivial, ?_⟩; gi_at_call 11; refine (callsIn_wide.2 (chanceryref1_Within.calls x0 0 5 stop _ hstop)).mono ?_; rintro e W3 ⟨rfl, ⟨nd, hW3⟩⟩; have hb3 := below_step hb (show Below W2.heap.size W2 W3 from by rw [hW3]; exact pw_below_drewN (Below.refl _ _) nd); clear hW3 q2 q3 z3 q5 q6 hb; obtain ⟨q2, q3, z3, q5, q6⟩ := hbc hb3; have p2 : Boxed W3 w.heap.size 24 (.slice A0 l0.length c0) := (hb3.block _ b2.lt).trans b2; have p3 : Boxed W3 (w.heap.size + 1) 3 (.int .i64 x0) := (hb3.block _ b3.lt).trans b3; have p4 : Boxed W3 (w.heap.size + 1 + 1) 4 (.bool false) := (hb3.block _ b4.lt).trans b4; have p6 : Boxed W3 (w1.heap.size + 1) 3 (.int .i64 (N : Int)) := (hb3.block _ b6.lt).trans b6; have pK : W3.heap[D]? = some (.deferred (some [])) := (hb3.block _ (Array.getElem?_eq_some_iff.1 hK).1).trans hK; have r2 : ∀ o, ((W3.setCell ⟨w.heap.size + 1, 0, none⟩ (.int .i64 stop)).alloc o).cell? ⟨w.heap.size, 0, none⟩ = some (.slice A0 l0.length c0) := (fun o => Boxed.cell (blk_alloc (p2.other (by omega) _) o)); have hB3 : Below w.heap.size w W3 := below_step hB hb3)
        | (refine ⟨trivial, ?_⟩; gi_at_call 15; refine (pars_in Fence.wide _ trivial rfl _ _ _ _).mono ?_; rintro e w2 ⟨rfl, rfl⟩))
      obtain ⟨V0, hV0⟩ : ∃ V, V = ((W3.setCell ⟨w.heap.size + 1, 0, none⟩ (.int .i64 stop)).alloc (Obj.cells #[Value.int IntKind.i64 0] 3)).alloc (.cells #[.slice A0 l0.length c0] 24) := ⟨_, rfl⟩
      have hD3 : D < W3.heap.size := (Array.getElem?_eq_some_iff.1 pK).1
      have hBV : Below w.heap.size w V0 := by rw [hV0]; exact below_alloc (below_alloc (below_set hB3 (by show w.heap.size ≤ w.heap.size + 1; omega)) _) _
      have hsV : V0.heap.size = W3.heap.size + 2 := by rw [hV0]; simp only [World.size_alloc, World.size_setCell]
      have u3 : Boxed V0 (w.heap.size + 1) 3 (.int .i64 stop) := by rw [hV0]; exact blk_alloc (blk_alloc (blk_put p3 0 (.int .i64 stop) rfl) _) _
      have u4 : Boxed V0 (w.heap.size + 1 + 1) 4 (.bool false) := by rw [hV0]; exact blk_alloc (blk_alloc (p4.other (by omega) _) _) _
      have u6 : Boxed V0 (w1.heap.size + 1) 3 (.int .i64 (N : Int)) := by rw [hV0]; exact blk_alloc (blk_alloc (p6.other (by omega) _) _) _
      have uk : Boxed V0 W3.heap.size 3 (.int .i64 0) := by
        rw [hV0]
        have := blk_new (W3.setCell ⟨w.heap.size + 1, 0, none⟩ (.int .i64 stop)) (Obj.cells #[Value.int IntKind.i64 0] 3)
        rw [World.size_setCell] at this
        exact blk_alloc this _
      have ub : Boxed V0 (W3.heap.size + 1) 24 (.slice A0 l0.length c0) := by
        rw [hV0]
        have := blk_new ((W3.setCell ⟨w.heap.size + 1, 0, none⟩ (.int .i64 stop)).alloc (Obj.cells #[Value.int IntKind.i64 0] 3)) (.cells #[.slice A0 l0.length c0] 24)
        rw [World.size_alloc, World.size_setCell] at this
        exact this
      have uD : V0.heap[D]? = some (.deferred (some [])) := by
        rw [hV0]
        exact (Below.heap_alloc _ _ _ (by simp only [World.size_alloc, World.size_setCell]; omega)).trans ((Below.heap_alloc _ _ _ (by simp only [World.size_setCell]; omega)).trans ((KeepsOthers.setCell W3 ⟨w.heap.size + 1, 0, none⟩ (.int .i64 stop)).same D _ pK rfl))
      try rw [← hV0]
      have g4 : w.heap.size + 1 + 1 < W3.heap.size := p4.lt
      have g6 : w1.heap.size + 1 < W3.heap.size := p6.lt
      clear hV0 p2 p3 p4 p6 pK q2 q3 z3 q5 q6 hbc hb3 b2 b3 b4 b5 b6 r2 c2
      refine wpIn_rangeFunc_ownF rfl (by decide) (gf := 26) (lb := #[.pointer (some ⟨W3.heap.size + 1, 0, none⟩)]) rfl trivial (enters_of Tryd.func26 (by kernel_rfl) rfl)
        (pars_stops Fence.wide _ trivial rfl (by decide) (W3.heap.size + 1) w A0 c0 l0 hlen hr0 V0 hBV ub.lt ub.cell) belowK_t (belowK_b (by omega)) (Below.refl _ _) (fun _ => rfl)
        (fun pre W => Boxed W (w.heap.size + 1) 3 (.int .i64 stop) ∧ Boxed W (w.heap.size + 1 + 1) 4 (.bool false) ∧ Boxed W (w1.heap.size + 1) 3 (.int .i64 (N : Int)) ∧ Boxed W W3.heap.size 3 (.int .i64 (pre.length : Int)) ∧ (pre.length : Int) ≤ stop ∧ W.heap[D]? = some (.deferred (some [])) ∧ Below w.heap.size w W)
        (fun c pre W => (c = .exit 2 ∧ (pre.length : Int) = stop + 1) ∧ Boxed W (w.heap.size + 1) 3 (.int .i64 stop) ∧ Boxed W (w.heap.size + 1 + 1) 4 (.bool false) ∧ Boxed W (w1.heap.size + 1) 3 (.int .i64 (N : Int)) ∧ Boxed W W3.heap.size 3 (.int .i64 (pre.length : Int)) ∧ W.heap[D]? = some (.deferred (some [])) ∧ Below w.heap.size w W)
        (OwnFrom.and (Own.from (boxed_own _ _ _) _) (OwnFrom.and (Own.from (boxed_own _ _ _) _) (OwnFrom.and (Own.from (boxed_own _ _ _) _) (OwnFrom.and (Own.from (boxed_own _ _ _) _) (OwnFrom.and (fun _ _ _ _ h _ _ => h) (OwnFrom.and (fun s A B row hs hg hr => (hg.block D (Array.getElem?_eq_some_iff.1 hs).1 (fun e => by have := (hr D e.symm).1; omega)).trans hs) (ownFrom_below (Nat.le_refl _) (by omega))))))))
        (fun c => OwnFrom.and (fun _ _ _ _ h _ _ => h) (OwnFrom.and (Own.from (boxed_own _ _ _) _) (OwnFrom.and (Own.from (boxed_own _ _ _) _) (OwnFrom.and (Own.from (boxed_own _ _ _) _) (OwnFrom.and (Own.from (boxed_own _ _ _) _) (OwnFrom.and (fun s A B row hs hg hr => (hg.block D (Array.getElem?_eq_some_iff.1 hs).1 (fun e => by have := (hr D e.symm).1; omega)).trans hs) (ownFrom_below (Nat.le_refl _) (by omega))))))))
        ⟨u3, u4, u6, uk, by show (0 : Int) ≤ stop; omega, uD, hBV⟩
        ?a1 ?assign2 ?body2 ?done2 ?stop2
      case assign2 =>
        intro l x W K hK
        gi_wp2
        exact hK
      case body2 =>
        rintro l pre x W ⟨v3, v4, v6, vk, hle, vD, hB⟩ hpn
        have c3 := v3.cell
        have ck := vk.cell
        have fk := vk.frozen
        have c3' : ∀ v, (W.setCell ⟨W3.heap.size, 0, none⟩ v).cell? ⟨w.heap.size + 1, 0, none⟩ = some (.int .i64 stop) := fun v => (v3.other (by omega) v).cell
        have out : Boxed (W.setCell ⟨W3.heap.size, 0, none⟩ (.int .i64 ((pre.length : Int) + 1))) (w.heap.size + 1) 3 (.int .i64 stop) ∧ Boxed (W.setCell ⟨W3.heap.size, 0, none⟩ (.int .i64 ((pre.length : Int) + 1))) (w.heap.size + 1 + 1) 4 (.bool false) ∧ Boxed (W.setCell ⟨W3.heap.size, 0, none⟩ (.int .i64 ((pre.length : Int) + 1))) (w1.heap.size + 1) 3 (.int .i64 (N : Int)) ∧ Boxed (W.setCell ⟨W3.heap.size, 0, none⟩ (.int .i64 ((pre.length : Int) + 1))) W3.heap.size 3 (.int .i64 ((pre ++ [x]).length : Int)) ∧ (W.setCell ⟨W3.heap.size, 0, none⟩ (.int .i64 ((pre.length : Int) + 1))).heap[D]? = some (.deferred (some [])) ∧ Below w.heap.size w (W.setCell ⟨W3.heap.size, 0, none⟩ (.int .i64 ((pre.length : Int) + 1))) :=
          ⟨v3.other (by omega) _, v4.other (by omega) _, v6.other (by omega) _, by rw [List.length_append]; exact blk_put vk 0 (.int .i64 (((pre.length + 1 : Nat) : Int))) rfl, (KeepsOthers.setCell W _ _).same D _ vD rfl, hB.setCell (p := ⟨W3.heap.size, 0, none⟩) (by show w.heap.size ≤ W3.heap.size; omega) _⟩
        have hB' : ∀ v, Below w.heap.size W (W.setCell ⟨W3.heap.size, 0, none⟩ v) := fun v => (Below.refl w.heap.size W).setCell (p := ⟨W3.heap.size, 0, none⟩) (by show w.heap.size ≤ W3.heap.size; omega) v
        by_cases hs : stop < (pre.length : Int) + 1
        · have hsb : decide (stop < (pre.length : Int) + 1) = true := decide_eq_true hs
          gi_wp2
          exact ⟨KeepsOthers.setCell _ _ _, ⟨rfl, by rw [List.length_append, List.length_singleton]; omega⟩, out⟩
        · have hsb : decide (stop < (pre.length : Int) + 1) = false := decide_eq_false hs
          gi_wp2
          exact ⟨KeepsOthers.setCell _ _ _, hB' _, out.1, out.2.1, out.2.2.1, out.2.2.2.1, by rw [List.length_append, List.length_singleton]; omega, out.2.2.2.2.1, out.2.2.2.2.2⟩
      case done2 =>
        rintro D2 ys W hD2 rfl ⟨v3, v4, v6, vk, hle, vD, hB⟩ hK2
        rw [← HN.out] at vk hle
        have c3 := v3.cell
        have c6 := v6.cell
        have ck := vk.cell
        have c4 := v4.cell
        have fz := v4.frozen
        have hmin : (if stop + 1 < (N : Int) then stop + 1 else (N : Int)) = (N : Int) := if_neg (by omega)
        clear hD hall hcheck hCk
        gi_wp2
        have bx : Boxed (W.setCell ⟨w.heap.size + 1 + 1, 0, none⟩ (.bool true)) (w.heap.size + 1 + 1) 4 (.bool true) := blk_put v4 0 (.bool true) rfl
        have hK2' := (KeepsOthers.setCell W ⟨w.heap.size + 1 + 1, 0, none⟩ (.bool true)).same D2 _ hK2 rfl
        have hD' := (KeepsOthers.setCell W ⟨w.heap.size + 1 + 1, 0, none⟩ (.bool true)).same D _ vD rfl
        have hD'' : ((W.setCell ⟨w.heap.size + 1 + 1, 0, none⟩ (.bool true)).putObj D2 (.deferred none)).heap[D]? = some (.deferred (some [])) := ((grownBy_putObj' _ D2 (.deferred none)).block D (Array.getElem?_eq_some_iff.1 hD').1 (fun e => by cases e; omega)).trans hD'
        have hDn : w.heap.size + 1 + 1 ≠ D := by have := HD.out; omega
        have hD2n : w.heap.size + 1 + 1 ≠ D2 := by omega
        have hDl : w.heap.size ≤ D := by have := HD.out; omega
        have bx2 : Boxed (((W.setCell ⟨w.heap.size + 1 + 1, 0, none⟩ (.bool true)).putObj D2 (.deferred none)).putObj D (.deferred none)) (w.heap.size + 1 + 1) 4 (.bool true) :=
          (bx.kept (grownBy_putObj' _ D2 _) (fun e => hD2n (Option.some.inj e))).kept (grownBy_putObj' _ D _) (fun e => hDn (Option.some.inj e))
        have hc5 := bx2.cell
        refine ⟨by simp, .inl ⟨_, _, rfl, run_takeDeferred hK2', ?_⟩⟩
        refine ⟨by simp, .inl ⟨_, _, rfl, run_takeDeferred hD'', ?_⟩⟩
        refine ⟨.bool true, ?_, rfl, ?_⟩
        · simp [results, Tryd.f5, go_sem, hc5]
        · exact ((hB.setCell (p := ⟨w.heap.size + 1 + 1, 0, none⟩) (by show w.heap.size ≤ w.heap.size + 1 + 1; omega) _).trans (belowK_b (w := w) (Nat.le_refl _) _ D2 _ _ (by omega) hK2' rfl rfl)).trans (belowK_b (w := w) (Nat.le_refl _) _ D _ _ hDl hD'' rfl rfl)
      case stop2 =>
        rintro D2 c pre W hD2 hpre ⟨⟨rfl, hpl2⟩, v3, v4, v6, vk, vD, hB⟩ hK2
        have hpn : pre.length ≤ N := by rw [HN.out]; exact hpre.length_le
        have c3 := v3.cell
        have c6 := v6.cell
        have ck := vk.cell
        have c4 := v4.cell
        have fz := v4.frozen
        rw [hpl2] at ck
        have hmin : (if stop + 1 < (N : Int) then stop + 1 else (N : Int)) = stop + 1 := by split <;> omega
        clear hD hall hcheck hCk
        gi_wp2
        have bx : Boxed (W.setCell ⟨w.heap.size + 1 + 1, 0, none⟩ (.bool true)) (w.heap.size + 1 + 1) 4 (.bool true) := blk_put v4 0 (.bool true) rfl
        have hK2' := (KeepsOthers.setCell W ⟨w.heap.size + 1 + 1, 0, none⟩ (.bool true)).same D2 _ hK2 rfl
        have hD' := (KeepsOthers.setCell W ⟨w.heap.size + 1 + 1, 0, none⟩ (.bool true)).same D _ vD rfl
        have hD'' : ((W.setCell ⟨w.heap.size + 1 + 1, 0, none⟩ (.bool true)).putObj D2 (.deferred none)).heap[D]? = some (.deferred (some [])) := ((grownBy_putObj' _ D2 (.deferred none)).block D (Array.getElem?_eq_some_iff.1 hD').1 (fun e => by cases e; omega)).trans hD'
        have hDn : w.heap.size + 1 + 1 ≠ D := by have := HD.out; omega
        have hD2n : w.heap.size + 1 + 1 ≠ D2 := by omega
        have hDl : w.heap.size ≤ D := by have := HD.out; omega
        have bx2 : Boxed (((W.setCell ⟨w.heap.size + 1 + 1, 0, none⟩ (.bool true)).putObj D2 (.deferred none)).putObj D (.deferred none)) (w.heap.size + 1 + 1) 4 (.bool true) :=
          (bx.kept (grownBy_putObj' _ D2 _) (fun e => hD2n (Option.some.inj e))).kept (grownBy_putObj' _ D _) (fun e => hDn (Option.some.inj e))
        have hc5 := bx2.cell
        refine ⟨by simp, .inl ⟨_, _, rfl, run_takeDeferred hK2', ?_⟩⟩
        refine ⟨by simp, .inl ⟨_, _, rfl, run_takeDeferred hD'', ?_⟩⟩
        refine ⟨.bool true, ?_, rfl, ?_⟩
        · simp [results, Tryd.f5, go_sem, hc5]
        · exact ((hB.setCell (p := ⟨w.heap.size + 1 + 1, 0, none⟩) (by show w.heap.size ≤ w.heap.size + 1 + 1; omega) _).trans (belowK_b (w := w) (Nat.le_refl _) _ D2 _ _ (by omega) hK2' rfl rfl)).trans (belowK_b (w := w) (Nat.le_refl _) _ D _ _ hDl hD'' rfl rfl)
    · have hccb : (cc == 0) = false := beq_eq_false_iff_ne.mpr hcc
      gi_wp2_with (first
        | (refine ⟨trivial, ?_⟩; gi_at_call 16; refine (callsIn_wide.2 hCk).mono ?_; rintro e W2 ⟨rfl, hb⟩; obtain ⟨q2, q3, z3, q5, q6⟩ := hbc hb)
        | (refine ⟨trivial, ?_⟩; gi_at_call 11; refine (callsIn_wide.2 (chanceryref1_Within.calls x0 0 5 stop _ hstop)).mono ?_; rintro e W3 ⟨rfl, ⟨nd, hW3⟩⟩; have hb3 := below_step hb (show Below W2.heap.size W2 W3 from by rw [hW3]; exact pw_below_drewN (Below.refl _ _) nd); clear hW3 q2 q3 z3 q5 q6 hb; obtain ⟨q2, q3, z3, q5, q6⟩ := hbc hb3; have p2 : Boxed W3 w.heap.size 24 (.slice A0 l0.length c0) := (hb3.block _ b2.lt).trans b2; have p3 : Boxed W3 (w.heap.size + 1) 3 (.int .i64 x0) := (hb3.block _ b3.lt).trans b3; have p4 : Boxed W3 (w.heap.size + 1 + 1) 4 (.bool false) := (hb3.block _ b4.lt).trans b4; have p6 : Boxed W3 (w1.heap.size + 1) 3 (.int .i64 (N : Int)) := (hb3.block _ b6.lt).trans b6; have pK : W3.heap[D]? = some (.deferred (some [])) := (hb3.block _ (Array.getElem?_eq_some_iff.1 hK).1).trans hK; have r2 : ∀ o, ((W3.setCell ⟨w.heap.size + 1, 0, none⟩ (.int .i64 stop)).alloc o).cell? ⟨w.heap.size, 0, none⟩ = some (.slice A0 l0.length c0) := (fun o => Boxed.cell (blk_alloc (p2.other (by omega) _) o)); have hB3 : Below w.heap.size w W3 := below_step hB hb3)
        | (refine ⟨trivial, ?_⟩; gi_at_call 15; refine (pars_in Fence.wide _ trivial rfl _ _ _ _).mono ?_; rintro e w2 ⟨rfl, rfl⟩))
      obtain ⟨V0, hV0⟩ : ∃ V, V = ((W3.setCell ⟨w.heap.size + 1, 0, none⟩ (.int .i64 stop)).alloc (Obj.cells #[Value.int IntKind.i64 0] 3)).alloc (.cells #[.slice A0 l0.length c0] 24) := ⟨_, rfl⟩
      have hD3 : D < W3.heap.size := (Array.getElem?_eq_some_iff.1 pK).1
      have hBV : Below w.heap.size w V0 := by rw [hV0]; exact below_alloc (below_alloc (below_set hB3 (by show w.heap.size ≤ w.heap.size + 1; omega)) _) _
      have hsV : V0.heap.size = W3.heap.size + 2 := by rw [hV0]; simp only [World.size_alloc, World.size_setCell]
      have u3 : Boxed V0 (w.heap.size + 1) 3 (.int .i64 stop) := by rw [hV0]; exact blk_alloc (blk_alloc (blk_put p3 0 (.int .i64 stop) rfl) _) _
      have u4 : Boxed V0 (w.heap.size + 1 + 1) 4 (.bool false) := by rw [hV0]; exact blk_alloc (blk_alloc (p4.other (by omega) _) _) _
      have u6 : Boxed V0 (w1.heap.size + 1) 3 (.int .i64 (N : Int)) := by rw [hV0]; exact blk_alloc (blk_alloc (p6.other (by omega) _) _) _
      have uk : Boxed V0 W3.heap.size 3 (.int .i64 0) := by
        rw [hV0]
        have := blk_new (W3.setCell ⟨w.heap.size + 1, 0, none⟩ (.int .i64 stop)) (Obj.cells #[Value.int IntKind.i64 0] 3)
        rw [World.size_setCell] at this
        exact blk_alloc this _
      have ub : Boxed V0 (W3.heap.size + 1) 24 (.slice A0 l0.length c0) := by
        rw [hV0]
        have := blk_new ((W3.setCell ⟨w.heap.size + 1, 0, none⟩ (.int .i64 stop)).alloc (Obj.cells #[Value.int IntKind.i64 0] 3)) (.cells #[.slice A0 l0.length c0] 24)
        rw [World.size_alloc, World.size_setCell] at this
        exact this
      have uD : V0.heap[D]? = some (.deferred (some [])) := by
        rw [hV0]
        exact (Below.heap_alloc _ _ _ (by simp only [World.size_alloc, World.size_setCell]; omega)).trans ((Below.heap_alloc _ _ _ (by simp only [World.size_setCell]; omega)).trans ((KeepsOthers.setCell W3 ⟨w.heap.size + 1, 0, none⟩ (.int .i64 stop)).same D _ pK rfl))
      try rw [← hV0]
      have g4 : w.heap.size + 1 + 1 < W3.heap.size := p4.lt
      have g6 : w1.heap.size + 1 < W3.heap.size := p6.lt
      clear hV0 p2 p3 p4 p6 pK q2 q3 z3 q5 q6 hbc hb3 b2 b3 b4 b5 b6 r2 c2
      refine wpIn_rangeFunc_ownF rfl (by decide) (gf := 26) (lb := #[.pointer (some ⟨W3.heap.size + 1, 0, none⟩)]) rfl trivial (enters_of Tryd.func26 (by kernel_rfl) rfl)
        (pars_stops Fence.wide _ trivial rfl (by decide) (W3.heap.size + 1) w A0 c0 l0 hlen hr0 V0 hBV ub.lt ub.cell) belowK_t (belowK_b (by omega)) (Below.refl _ _) (fun _ => rfl)
        (fun pre W => Boxed W (w.heap.size + 1) 3 (.int .i64 stop) ∧ Boxed W (w.heap.size + 1 + 1) 4 (.bool false) ∧ Boxed W (w1.heap.size + 1) 3 (.int .i64 (N : Int)) ∧ Boxed W W3.heap.size 3 (.int .i64 (pre.length : Int)) ∧ (pre.length : Int) ≤ stop ∧ W.heap[D]? = some (.deferred (some [])) ∧ Below w.heap.size w W)
        (fun c pre W => (c = .exit 2 ∧ (pre.length : Int) = stop + 1) ∧ Boxed W (w.heap.size + 1) 3 (.int .i64 stop) ∧ Boxed W (w.heap.size + 1 + 1) 4 (.bool false) ∧ Boxed W (w1.heap.size + 1) 3 (.int .i64 (N : Int)) ∧ Boxed W W3.heap.size 3 (.int .i64 (pre.length : Int)) ∧ W.heap[D]? = some (.deferred (some [])) ∧ Below w.heap.size w W)
        (OwnFrom.and (Own.from (boxed_own _ _ _) _) (OwnFrom.and (Own.from (boxed_own _ _ _) _) (OwnFrom.and (Own.from (boxed_own _ _ _) _) (OwnFrom.and (Own.from (boxed_own _ _ _) _) (OwnFrom.and (fun _ _ _ _ h _ _ => h) (OwnFrom.and (fun s A B row hs hg hr => (hg.block D (Array.getElem?_eq_some_iff.1 hs).1 (fun e => by have := (hr D e.symm).1; omega)).trans hs) (ownFrom_below (Nat.le_refl _) (by omega))))))))
        (fun c => OwnFrom.and (fun _ _ _ _ h _ _ => h) (OwnFrom.and (Own.from (boxed_own _ _ _) _) (OwnFrom.and (Own.from (boxed_own _ _ _) _) (OwnFrom.and (Own.from (boxed_own _ _ _) _) (OwnFrom.and (Own.from (boxed_own _ _ _) _) (OwnFrom.and (fun s A B row hs hg hr => (hg.block D (Array.getElem?_eq_some_iff.1 hs).1 (fun e => by have := (hr D e.symm).1; omega)).trans hs) (ownFrom_below (Nat.le_refl _) (by omega))))))))
        ⟨u3, u4, u6, uk, by show (0 : Int) ≤ stop; omega, uD, hBV⟩
        ?a3 ?assign3 ?body3 ?done3 ?stop3
      case assign3 =>
        intro l x W K hK
        gi_wp2
        exact hK
      case body3 =>
        rintro l pre x W ⟨v3, v4, v6, vk, hle, vD, hB⟩ hpn
        have c3 := v3.cell
        have ck := vk.cell
        have fk := vk.frozen
        have c3' : ∀ v, (W.setCell ⟨W3.heap.size, 0, none⟩ v).cell? ⟨w.heap.size + 1, 0, none⟩ = some (.int .i64 stop) := fun v => (v3.other (by omega) v).cell
        have out : Boxed (W.setCell ⟨W3.heap.size, 0, none⟩ (.int .i64 ((pre.length : Int) + 1))) (w.heap.size + 1) 3 (.int .i64 stop) ∧ Boxed (W.setCell ⟨W3.heap.size, 0, none⟩ (.int .i64 ((pre.length : Int) + 1))) (w.heap.size + 1 + 1) 4 (.bool false) ∧ Boxed (W.setCell ⟨W3.heap.size, 0, none⟩ (.int .i64 ((pre.length : Int) + 1))) (w1.heap.size + 1) 3 (.int .i64 (N : Int)) ∧ Boxed (W.setCell ⟨W3.heap.size, 0, none⟩ (.int .i64 ((pre.length : Int) + 1))) W3.heap.size 3 (.int .i64 ((pre ++ [x]).length : Int)) ∧ (W.setCell ⟨W3.heap.size, 0, none⟩ (.int .i64 ((pre.length : Int) + 1))).heap[D]? = some (.deferred (some [])) ∧ Below w.heap.size w (W.setCell ⟨W3.heap.size, 0, none⟩ (.int .i64 ((pre.length : Int) + 1))) :=
          ⟨v3.other (by omega) _, v4.other (by omega) _, v6.other (by omega) _, by rw [List.length_append]; exact blk_put vk 0 (.int .i64 (((pre.length + 1 : Nat) : Int))) rfl, (KeepsOthers.setCell W _ _).same D _ vD rfl, hB.setCell (p := ⟨W3.heap.size, 0, none⟩) (by show w.heap.size ≤ W3.heap.size; omega) _⟩
        have hB' : ∀ v, Below w.heap.size W (W.setCell ⟨W3.heap.size, 0, none⟩ v) := fun v => (Below.refl w.heap.size W).setCell (p := ⟨W3.heap.size, 0, none⟩) (by show w.heap.size ≤ W3.heap.size; omega) v
        by_cases hs : stop < (pre.length : Int) + 1
        · have hsb : decide (stop < (pre.length : Int) + 1) = true := decide_eq_true hs
          gi_wp2
          exact ⟨KeepsOthers.setCell _ _ _, ⟨rfl, by rw [List.length_append, List.length_singleton]; omega⟩, out⟩
        · have hsb : decide (stop < (pre.length : Int) + 1) = false := decide_eq_false hs
          gi_wp2
          exact ⟨KeepsOthers.setCell _ _ _, hB' _, out.1, out.2.1, out.2.2.1, out.2.2.2.1, by rw [List.length_append, List.length_singleton]; omega, out.2.2.2.2.1, out.2.2.2.2.2⟩
      case done3 =>
        rintro D2 ys W hD2 rfl ⟨v3, v4, v6, vk, hle, vD, hB⟩ hK2
        rw [← HN.out] at vk hle
        have c3 := v3.cell
        have c6 := v6.cell
        have ck := vk.cell
        have c4 := v4.cell
        have fz := v4.frozen
        have hmin : (if stop + 1 < (N : Int) then stop + 1 else (N : Int)) = (N : Int) := if_neg (by omega)
        clear hD hall hcheck hCk
        gi_wp2
        have bx : Boxed (W.setCell ⟨w.heap.size + 1 + 1, 0, none⟩ (.bool true)) (w.heap.size + 1 + 1) 4 (.bool true) := blk_put v4 0 (.bool true) rfl
        have hK2' := (KeepsOthers.setCell W ⟨w.heap.size + 1 + 1, 0, none⟩ (.bool true)).same D2 _ hK2 rfl
        have hD' := (KeepsOthers.setCell W ⟨w.heap.size + 1 + 1, 0, none⟩ (.bool true)).same D _ vD rfl
        have hD'' : ((W.setCell ⟨w.heap.size + 1 + 1, 0, none⟩ (.bool true)).putObj D2 (.deferred none)).heap[D]? = some (.deferred (some [])) := ((grownBy_putObj' _ D2 (.deferred none)).block D (Array.getElem?_eq_some_iff.1 hD').1 (fun e => by cases e; omega)).trans hD'
        have hDn : w.heap.size + 1 + 1 ≠ D := by have := HD.out; omega
        have hD2n : w.heap.size + 1 + 1 ≠ D2 := by omega
        have hDl : w.heap.size ≤ D := by have := HD.out; omega
        have bx2 : Boxed (((W.setCell ⟨w.heap.size + 1 + 1, 0, none⟩ (.bool true)).putObj D2 (.deferred none)).putObj D (.deferred none)) (w.heap.size + 1 + 1) 4 (.bool true) :=
          (bx.kept (grownBy_putObj' _ D2 _) (fun e => hD2n (Option.some.inj e))).kept (grownBy_putObj' _ D _) (fun e => hDn (Option.some.inj e))
        have hc5 := bx2.cell
        refine ⟨by simp, .inl ⟨_, _, rfl, run_takeDeferred hK2', ?_⟩⟩
        refine ⟨by simp, .inl ⟨_, _, rfl, run_takeDeferred hD'', ?_⟩⟩
        refine ⟨.bool true, ?_, rfl, ?_⟩
        · simp [results, Tryd.f5, go_sem, hc5]
        · exact ((hB.setCell (p := ⟨w.heap.size + 1 + 1, 0, none⟩) (by show w.heap.size ≤ w.heap.size + 1 + 1; omega) _).trans (belowK_b (w := w) (Nat.le_refl _) _ D2 _ _ (by omega) hK2' rfl rfl)).trans (belowK_b (w := w) (Nat.le_refl _) _ D _ _ hDl hD'' rfl rfl)
      case stop3 =>
        rintro D2 c pre W hD2 hpre ⟨⟨rfl, hpl2⟩, v3, v4, v6, vk, vD, hB⟩ hK2
        have hpn : pre.length ≤ N := by rw [HN.out]; exact hpre.length_le
        have c3 := v3.cell
        have c6 := v6.cell
        have ck := vk.cell
        have c4 := v4.cell
        have fz := v4.frozen
        rw [hpl2] at ck
        have hmin : (if stop + 1 < (N : Int) then stop + 1 else (N : Int)) = stop + 1 := by split <;> omega
        clear hD hall hcheck hCk
        gi_wp2
        have bx : Boxed (W.setCell ⟨w.heap.size + 1 + 1, 0, none⟩ (.bool true)) (w.heap.size + 1 + 1) 4 (.bool true) := blk_put v4 0 (.bool true) rfl
        have hK2' := (KeepsOthers.setCell W ⟨w.heap.size + 1 + 1, 0, none⟩ (.bool true)).same D2 _ hK2 rfl
        have hD' := (KeepsOthers.setCell W ⟨w.heap.size + 1 + 1, 0, none⟩ (.bool true)).same D _ vD rfl
        have hD'' : ((W.setCell ⟨w.heap.size + 1 + 1, 0, none⟩ (.bool true)).putObj D2 (.deferred none)).heap[D]? = some (.deferred (some [])) := ((grownBy_putObj' _ D2 (.deferred none)).block D (Array.getElem?_eq_some_iff.1 hD').1 (fun e => by cases e; omega)).trans hD'
        have hDn : w.heap.size + 1 + 1 ≠ D := by have := HD.out; omega
        have hD2n : w.heap.size + 1 + 1 ≠ D2 := by omega
        have hDl : w.heap.size ≤ D := by have := HD.out; omega
        have bx2 : Boxed (((W.setCell ⟨w.heap.size + 1 + 1, 0, none⟩ (.bool true)).putObj D2 (.deferred none)).putObj D (.deferred none)) (w.heap.size + 1 + 1) 4 (.bool true) :=
          (bx.kept (grownBy_putObj' _ D2 _) (fun e => hD2n (Option.some.inj e))).kept (grownBy_putObj' _ D _) (fun e => hDn (Option.some.inj e))
        have hc5 := bx2.cell
        refine ⟨by simp, .inl ⟨_, _, rfl, run_takeDeferred hK2', ?_⟩⟩
        refine ⟨by simp, .inl ⟨_, _, rfl, run_takeDeferred hD'', ?_⟩⟩
        refine ⟨.bool true, ?_, rfl, ?_⟩
        · simp [results, Tryd.f5, go_sem, hc5]
        · exact ((hB.setCell (p := ⟨w.heap.size + 1 + 1, 0, none⟩) (by show w.heap.size ≤ w.heap.size + 1 + 1; omega) _).trans (belowK_b (w := w) (Nat.le_refl _) _ D2 _ _ (by omega) hK2' rfl rfl)).trans (belowK_b (w := w) (Nat.le_refl _) _ D _ _ hDl hD'' rfl rfl)
  case stop =>
    rintro D c pre W hD hpre ⟨rfl, hbad⟩ hK
    exact absurd (hch.pre hpre) hbad
end Go.Proofs.YtdgemabmmomebaaDoor.PFlow

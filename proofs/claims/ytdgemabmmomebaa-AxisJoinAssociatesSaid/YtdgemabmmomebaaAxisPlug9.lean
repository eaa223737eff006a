/- The laws' fitting. -/
import Derived.Test.YtdgemabmmomebaaAxisPlug8
namespace Go.Proofs.Ytdgemabmmomebaa.PAxis
open Go.RowKit Go.Proofs.YtdgemabmmomebaaW.PrintWords Go.Proofs.YtdgemabmmomebaaW.PrintLast Go.Proofs.YtdgemabmmomebaaW.PrintMore
attribute [local go_sem] max2_int min2_int max_two min_two
set_option linter.unusedVariables false
set_option linter.unusedSimpArgs false

theorem rollF_range {raw : List Int} {u : Nat} {x : Int} (h : rollF raw u 6 = some x) : 0 ≤ x ∧ x ≤ 5 := by
  unfold rollF at h
  split at h
  · injection h with h; omega
  · unfold chanceryref1_Within.f at h
    generalize wrap64 (rd raw ((u % raw.length : Nat) : Int) + (((u + 1) / raw.length : Nat) : Int)) = v at h
    rw [show wrap64 (wrap64 (wrap64 (6 - 1) - 0) + 1) = 6 from by unfold wrap64; omega, if_neg (by decide)] at h
    injection h with h
    have h1 : -6 < Int.tmod v 6 ∧ Int.tmod v 6 < 6 := ⟨Int.lt_tmod_of_pos v (by decide), Int.tmod_lt_of_pos v (by decide)⟩
    have h2 : wrap64 (Int.tmod v 6 + 6) = Int.tmod v 6 + 6 := by unfold wrap64; omega
    rw [h2, Int.tmod_eq_emod_of_nonneg (by omega)] at h
    have h3 : wrap64 (0 + (Int.tmod v 6 + 6) % 6) = (Int.tmod v 6 + 6) % 6 := by unfold wrap64; omega
    rw [h3] at h
    omega

structure FitAt (w0 : World) (g : Nat) (raw : List Int) (u : Nat) (acc : List Int) (v : Value) (w : World) : Prop where
  row : Kd.R (Kd.int .i64) 3 w w0.heap.size (fun _ => True) v acc
  bel : Below w0.heap.size w0 w
  dice : DiceSt w0 g raw u w
  lg : w0.heap.size ≤ g
theorem FitAt.roll {w0 w : World} {g : Nat} {raw : List Int} {u : Nat} {acc : List Int} {v : Value} (h : FitAt w0 g raw u acc v w) (hu : u < 4611686018427387904) {n r : Int} (hf : rollF raw u n = some r) :
    Calls Try.prog 70 #[.pointer (some ⟨g, 0, none⟩), .int .i64 n] w fun e w' => e = .returned (.int .i64 r) ∧ FitAt w0 g raw (rollU raw u) acc v w' := by
  refine (roll_calls w0 g raw u n r w h.lg h.dice h.bel hu hf).mono ?_
  rintro e w' ⟨rfl, hd, ⟨hs, hfr⟩, hb⟩
  obtain ⟨A, c, hblk, hC, hc⟩ := h.dice.ex
  refine ⟨rfl, ?_, hb, hd, h.lg⟩
  have hR := Kd.R_types h.row hblk (by decide)
  exact Kd.R_mono (Kd.R_step hR (fun k hk hlt => hfr k hlt hk.2)) (fun _ _ => trivial)
theorem FitAt.app {w0 w w1 : World} {g : Nat} {raw : List Int} {u : Nat} {acc acc' : List Int} {v v1 : Value} (h : FitAt w0 g raw u acc v w) (hR : Kd.R (Kd.int .i64) 3 w1 w0.heap.size (fun _ => True) v1 acc') (hB : Below w0.heap.size w0 w1) (hg : w.grownBy w1 v.ownBlock) :
    FitAt w0 g raw u acc' v1 w1 := by
  obtain ⟨A, c, hblk, hC, hc⟩ := h.dice.ex
  exact ⟨hR, hB, ⟨A, c, blk_grown hblk hg (Kd.R_ne h.row hblk (by decide)), hC, hc⟩, h.lg⟩

def fitU : Nat → List Int → Nat → List Int → Option (List Int × Nat)
  | 0, raw, u, acc => some (acc, u)
  | m + 1, raw, u, acc => (rollF raw u 6).bind fun x => (rollF raw (rollU raw u) 6).bind fun y => fitU m raw (rollU raw (rollU raw u)) (acc ++ List.replicate (x - 3).toNat 1 ++ [if y = 0 then 2 else 0])
theorem rollU_le (raw : List Int) (u : Nat) : rollU raw u ≤ u + 1 := by unfold rollU; split <;> omega
/-- What fitting returns. -/
def fittingF (k : Nat) (n : Int) (raw : List Int) : Option (List S97) :=
  if n ≤ 1048576 then (fitU n.toNat raw 0 []).bind fun t => (rollF raw t.2 6).bind fun x => stepsL k (t.1 ++ List.replicate (x - 3).toNat 1) [] else none
theorem fittingF_mono (n : Int) (raw : List Int) (k : Nat) : LeO (fittingF k n raw) (fittingF (k + 1) n raw) :=
  LeO.ite (LeO.bind (LeO.refl _) (fun t => LeO.bind (LeO.refl _) (fun x => stepsL_mono k _ _))) (LeO.refl _)

theorem fitU_facts : ∀ (m : Nat) (raw : List Int) (u : Nat) (acc : List Int) (t : List Int × Nat), fitU m raw u acc = some t → (∀ x, x ∈ acc → x = 0 ∨ x = 1 ∨ x = 2) →
    (∀ x, x ∈ t.1 → x = 0 ∨ x = 1 ∨ x = 2) ∧ t.1.length ≤ acc.length + 3 * m ∧ t.2 ≤ u + 2 * m
  | 0, raw, u, acc, t, h, ha => by
    injection h with h
    subst h
    exact ⟨ha, by simp, by simp⟩
  | m + 1, raw, u, acc, t, h, ha => by
    rw [fitU] at h
    replace h := Option.bind_eq_some_iff.1 h
    obtain ⟨x, hx, h⟩ := h
    replace h := Option.bind_eq_some_iff.1 h
    obtain ⟨y, hy, h⟩ := h
    obtain ⟨h1, h2, h3⟩ := fitU_facts m raw _ _ t h (by
      intro z hz
      rw [List.mem_append, List.mem_append] at hz
      rcases hz with (hz | hz) | hz
      · exact ha z hz
      · exact .inr (.inl (List.eq_of_mem_replicate hz))
      · rw [List.mem_singleton] at hz
        split at hz <;> omega)
    have hr := rollF_range hx
    refine ⟨h1, ?_, ?_⟩
    · simp only [List.length_append, List.length_replicate, List.length_singleton] at h2
      omega
    · have : rollU raw u ≤ u + 1 := by unfold rollU; split <;> omega
      have : rollU raw (rollU raw u) ≤ rollU raw u + 1 := by unfold rollU; split <;> omega
      omega

set_option maxRecDepth 100000 in
set_option maxHeartbeats 8000000 in
theorem fitting_calls (k : Nat) (n : Int) (A0 : Option Addr) (c0 : Nat) (raw : List Int) (r : List S97) (w : World) (hr0 : Kd.C (Kd.int .i64) w A0 raw.length raw) (hc0 : raw.length ≤ c0) (h : fittingF k n raw = some r) :
    Calls Try.prog 31 #[.int .i64 n, .slice A0 raw.length c0] w fun e w' => ∃ v0_ : Value, e = .returned v0_ ∧ Kd.R k97 97 w' w.heap.size (fun _ => True) v0_ r ∧ Below w.heap.size w w' := by
  have hu97 := Try.underlying97
  have hu100 := Try.underlying100
  have HR0 := Aside0.mk hr0
  have HC0 := Aside0.mk hc0
  rw [fittingF] at h
  by_cases hn : n ≤ 1048576
  rotate_left
  · rw [if_neg hn] at h
    cases h
  rw [if_pos hn] at h
  replace h := Option.bind_eq_some_iff.1 h
  obtain ⟨⟨us, uu⟩, hfu, h⟩ := h
  replace h := Option.bind_eq_some_iff.1 h
  obtain ⟨x9, hx9, h⟩ := h
  have hF := fitU_facts _ _ _ _ _ hfu (fun x hx => by simp at hx)
  simp only [List.length_nil, Nat.zero_add] at hF
  have HF := Aside0.mk hF
  have HX9 := Aside0.mk hx9
  have HL9 := Aside0.mk h
  have HFU := Aside0.mk (show n = (n.toNat : Int) ∨ n.toNat = 0 by omega)
  have HSM := Aside0.mk (show n.toNat ≤ 1048576 by omega)
  have HU := Aside0.mk hfu
  have HN := Aside0.mk (show ∀ j : Nat, j ≤ n.toNat → (decide ((j : Int) < n) = decide (j < n.toNat)) from fun j hj => by
    by_cases c : j < n.toNat
    · rw [decide_eq_true c, decide_eq_true (by omega)]
    · rw [decide_eq_false c, decide_eq_false (by omega)])
  clear hr0 hc0 h hfu hx9 hF hn
  go_enter Try.func31, Try.ntmps31
  go_wp2
  have hF0 : FitAt w w.heap.size raw 0 [] (.slice none 0 0) (w.alloc (Obj.cells #[Value.slice A0 raw.length c0, Value.int IntKind.i64 0] 100 (0, 0))) :=
    ⟨Kd.R_nil _ _ _ _ _, below_alloc (Below.refl _ _) _, ⟨A0, c0, blk_new w _, HR0.out, HC0.out⟩, Nat.le_refl _⟩
  have HF0 := Aside0.mk hF0
  clear hF0
  obtain ⟨g, hg⟩ : ∃ g, g = w.heap.size := ⟨_, rfl⟩
  rw [show w.heap.size = g from hg.symm]
  have HF1 : Aside0 (FitAt w g raw 0 [] (.slice none 0 0) (w.alloc (Obj.cells #[Value.slice A0 raw.length c0, Value.int IntKind.i64 0] 100 (0, 0)))) := ⟨by rw [hg]; exact HF0.out⟩
  clear HF0 hg
  go_loopg [5, 11] n.toNat (fun m v5 v11 wr => ∃ (i u : Nat) (acc : List Int), v11 = .int .i64 (i : Int) ∧ Aside0 (m + i = n.toNat ∧ acc.length ≤ 3 * i ∧ u ≤ 2 * i) ∧ Aside0 (FitAt w g raw u acc v5 wr) ∧ Aside0 (fitU m raw u acc = some (us, uu)))
  case atStart => exact ⟨0, 0, [], rfl, ⟨by simp⟩, HF1, HU⟩
  case round =>
    clear HF1 HU
    obtain ⟨i, u, acc, rfl, HI, HFA, HL⟩ := hrel
    obtain ⟨A1, n1, e1⟩ := Kd.R_slice HFA.out.row
    subst e1
    have g0 := HN.out i (by have := HI.out; omega)
    by_cases di : i < n.toNat
    · have g1 : decide ((i : Int) < n) = true := by rw [g0]; exact decide_eq_true di
      obtain ⟨gl, rfl⟩ : ∃ gl, gk = gl + 1 := ⟨gk - 1, by have := HI.out; omega⟩
      have hL := HL.out
      rw [fitU] at hL
      replace hL := Option.bind_eq_some_iff.1 hL
      obtain ⟨x, hx, hL⟩ := hL
      replace hL := Option.bind_eq_some_iff.1 hL
      obtain ⟨yy, hyy, hL⟩ := hL
      have HX := Aside0.mk hx
      have HY := Aside0.mk hyy
      clear HL
      have HL := Aside0.mk hL
      clear hx hyy hL g0 di
      obtain ⟨y, hy⟩ : ∃ y, y = x - 3 := ⟨_, rfl⟩
      have hw1 : IntKind.i64.wrap (x - 3) = y := by rw [i64_w]; have := rollF_range HX.out; unfold wrap64; omega
      have hw2 : wrap64 (x - 3) = y := by have := rollF_range HX.out; unfold wrap64; omega
      obtain ⟨c, hc⟩ : ∃ c : Nat, (if 0 < y then y else 0) = (c : Int) := ⟨y.toNat, by split <;> omega⟩
      have HC := Aside0.mk (show c = (x - 3).toNat ∧ c ≤ 2 by have := rollF_range HX.out; rw [← hy]; split at hc <;> omega)
      clear hy
      go_wp2_with (go_at_call 70; (with_reducible refine (HFA.out.roll (by have := HI.out; have := HSM.out; omega) HX.out).mono ?_); rintro e1 w5 ⟨rfl, hJ⟩; clear HFA; have HFA := Aside0.mk hJ; clear hJ)
      clear hw1 hw2 hc
      go_loopg [5, 17] c (fun m v5 v17 wr => ∃ (j : Nat) (al : List Int), v17 = .int .i64 (j : Int) ∧ Aside0 (m + j = c ∧ al = acc ++ List.replicate j 1) ∧ Aside0 (FitAt w g raw (rollU raw u) al v5 wr))
      case atStart => exact ⟨0, acc, rfl, ⟨rfl, by rw [List.replicate_zero, List.append_nil]⟩, HFA⟩
      case round =>
        clear HFA
        obtain ⟨j, al, rfl, HM, HFA⟩ := hrel
        obtain ⟨A2, n2, e2⟩ := Kd.R_slice HFA.out.row
        subst e2
        by_cases dj : j < c
        · have g1 : decide ((j : Int) < (c : Int)) = true := decide_eq_true (by omega)
          have g2 : decide (j < c) = true := decide_eq_true dj
          have wj : wrap64 ((j : Int) + 1) = (j : Int) + 1 := wrap_mid (by omega) (by have := HC.out; omega)
          have HZ := Aside0.mk (show (al.length + 1) * 8 ≤ 140737488355328 by rw [HM.out.2, List.length_append, List.length_replicate]; have := HC.out; have := HI.out; have := HSM.out; have := HM.out.1; omega)
          have hgk : c - (j + 1) < gk := by have := HM.out; omega
          go_wp2_with (at_builtin; refine Kd.R_append (Kd.int .i64) (w0 := w) w.heap.size rfl (.tmp 19) (.tmp 20) 43 3 (.int .i64 0) 8 rfl Try.underlying43 info3 rfl (by decide) (by decide) _ al 1 [.int .i64 1] (fun _ => True) (fun _ => False) rfl rfl rfl (fun _ h => h.elim) (fun _ _ => trivial) HFA.out.row HFA.out.bel HFA.out.bel.size HZ.out ?_)
          intro v1 w2 hR1 hB1 hg1 hat
          obtain ⟨A3, n3, rfl⟩ := Kd.R_slice hR1
          have HFA' := Aside0.mk (HFA.out.app hR1 hB1 hg1)
          clear hR1 hB1 hg1 hat
          go_wp2
          go_roundg (c - (j + 1))
          case measure => exact hgk
          case rel =>
            refine ⟨j + 1, al ++ [1], by first | rfl | go_num, ⟨by omega, ?_⟩, HFA'⟩
            rw [List.replicate_succ', ← List.append_assoc, HM.out.2]
        · have g1 : decide ((j : Int) < (c : Int)) = false := decide_eq_false (by omega)
          have g2 : decide (j < c) = false := decide_eq_false dj
          have HAL := Aside0.mk (show al = acc ++ List.replicate (x - 3).toNat 1 by rw [HM.out.2, ← HC.out.1]; congr 2; have := HM.out; omega)
          clear HM
          have HI' : Aside0 (gl + (i + 1) = n.toNat ∧ (acc ++ List.replicate (x - 3).toNat 1 ++ [if yy = 0 then 2 else 0]).length ≤ 3 * (i + 1) ∧ rollU raw (rollU raw u) ≤ 2 * (i + 1)) := ⟨by
            have h1 := HI.out
            have h2 := rollF_range HX.out
            have h3 := rollU_le raw u
            have h4 := rollU_le raw (rollU raw u)
            refine ⟨by omega, ?_, by omega⟩
            simp only [List.length_append, List.length_replicate, List.length_singleton]
            omega⟩
          have HZ2 := Aside0.mk (show (al.length + 1) * 8 ≤ 140737488355328 by rw [HAL.out, List.length_append, List.length_replicate]; have := rollF_range HX.out; have := HI.out; have := HSM.out; omega)
          have wi : wrap64 ((i : Int) + 1) = (i : Int) + 1 := wrap_mid (by omega) (by have := HI.out; have := HSM.out; omega)
          rw [← HAL.out] at HI' HL
          by_cases dy : yy = 0
          · have g3 : (yy == 0) = true := beq_iff_eq.mpr dy
            have HL' := HL
            rw [if_pos dy] at HI' HL'
            clear dy
            go_wp2_with (first | (go_at_call 70; (with_reducible refine (HFA.out.roll (by have := HI.out; have := rollU_le raw u; have := HSM.out; omega) HY.out).mono ?_); rintro e1 w5 ⟨rfl, hJ⟩; clear HFA; have HFA := Aside0.mk hJ; clear hJ) | (at_builtin; refine Kd.R_append (Kd.int .i64) (w0 := w) w.heap.size rfl (.tmp 26) (.tmp 27) 43 3 (.int .i64 0) 8 rfl Try.underlying43 info3 rfl (by decide) (by decide) _ al 2 [.int .i64 2] (fun _ => True) (fun _ => False) rfl rfl rfl (fun _ h => h.elim) (fun _ _ => trivial) HFA.out.row HFA.out.bel HFA.out.bel.size HZ2.out ?_))
            intro v1 w2 hR1 hB1 hg1 hat
            obtain ⟨A3, n3, rfl⟩ := Kd.R_slice hR1
            have HFA' := Aside0.mk (HFA.out.app hR1 hB1 hg1)
            clear hR1 hB1 hg1 hat
            go_wp2
            go_roundg gl
            case measure => exact Nat.lt_succ_self _
            case rel => exact ⟨i + 1, rollU raw (rollU raw u), _, by first | rfl | go_num, HI', HFA', HL'⟩
          · have g3 : (yy == 0) = false := beq_eq_false_iff_ne.mpr dy
            have HL' := HL
            rw [if_neg dy] at HI' HL'
            clear dy
            go_wp2_with (first | (go_at_call 70; (with_reducible refine (HFA.out.roll (by have := HI.out; have := rollU_le raw u; have := HSM.out; omega) HY.out).mono ?_); rintro e1 w5 ⟨rfl, hJ⟩; clear HFA; have HFA := Aside0.mk hJ; clear hJ) | (at_builtin; refine Kd.R_append (Kd.int .i64) (w0 := w) w.heap.size rfl (.tmp 29) (.tmp 30) 43 3 (.int .i64 0) 8 rfl Try.underlying43 info3 rfl (by decide) (by decide) _ al 0 [.int .i64 0] (fun _ => True) (fun _ => False) rfl rfl rfl (fun _ h => h.elim) (fun _ _ => trivial) HFA.out.row HFA.out.bel HFA.out.bel.size HZ2.out ?_))
            intro v1 w2 hR1 hB1 hg1 hat
            obtain ⟨A3, n3, rfl⟩ := Kd.R_slice hR1
            have HFA' := Aside0.mk (HFA.out.app hR1 hB1 hg1)
            clear hR1 hB1 hg1 hat
            go_wp2
            go_roundg gl
            case measure => exact Nat.lt_succ_self _
            case rel => exact ⟨i + 1, rollU raw (rollU raw u), _, by first | rfl | go_num, HI', HFA', HL'⟩
    · have g1 : decide ((i : Int) < n) = false := by rw [g0]; exact decide_eq_false di
      obtain rfl : gk = 0 := by have := HI.out; omega
      have hL := HL.out
      rw [fitU] at hL
      simp only [Option.some.injEq, Prod.mk.injEq] at hL
      obtain ⟨rfl, rfl⟩ := hL
      obtain ⟨x, hx⟩ : ∃ x, x = x9 := ⟨_, rfl⟩
      subst hx
      have HX := HX9
      clear HL g0 di
      obtain ⟨y, hy⟩ : ∃ y, y = x - 3 := ⟨_, rfl⟩
      have hw1 : IntKind.i64.wrap (x - 3) = y := by rw [i64_w]; have := rollF_range HX.out; unfold wrap64; omega
      have hw2 : wrap64 (x - 3) = y := by have := rollF_range HX.out; unfold wrap64; omega
      obtain ⟨c, hc⟩ : ∃ c : Nat, (if 0 < y then y else 0) = (c : Int) := ⟨y.toNat, by split <;> omega⟩
      have HC := Aside0.mk (show c = (x - 3).toNat ∧ c ≤ 2 by have := rollF_range HX.out; rw [← hy]; split at hc <;> omega)
      clear hy
      go_wp2_with (go_at_call 70; (with_reducible refine (HFA.out.roll (by have := HI.out; have := HSM.out; omega) HX.out).mono ?_); rintro e1 w5 ⟨rfl, hJ⟩; clear HFA; have HFA := Aside0.mk hJ; clear hJ)
      clear hw1 hw2 hc
      go_loopg [5, 37] c (fun m v5 v17 wr => ∃ (j : Nat) (al : List Int), v17 = .int .i64 (j : Int) ∧ Aside0 (m + j = c ∧ al = acc ++ List.replicate j 1) ∧ Aside0 (FitAt w g raw (rollU raw u) al v5 wr))
      case atStart => exact ⟨0, acc, rfl, ⟨rfl, by rw [List.replicate_zero, List.append_nil]⟩, HFA⟩
      case round =>
        clear HFA
        obtain ⟨j, al, rfl, HM, HFA⟩ := hrel
        obtain ⟨A2, n2, e2⟩ := Kd.R_slice HFA.out.row
        subst e2
        by_cases dj : j < c
        · have g1 : decide ((j : Int) < (c : Int)) = true := decide_eq_true (by omega)
          have g2 : decide (j < c) = true := decide_eq_true dj
          have wj : wrap64 ((j : Int) + 1) = (j : Int) + 1 := wrap_mid (by omega) (by have := HC.out; omega)
          have HZ := Aside0.mk (show (al.length + 1) * 8 ≤ 140737488355328 by rw [HM.out.2, List.length_append, List.length_replicate]; have := HC.out; have := HI.out; have := HSM.out; have := HM.out.1; omega)
          have hgk : c - (j + 1) < gk := by have := HM.out; omega
          go_wp2_with (at_builtin; refine Kd.R_append (Kd.int .i64) (w0 := w) w.heap.size rfl (.tmp 39) (.tmp 40) 43 3 (.int .i64 0) 8 rfl Try.underlying43 info3 rfl (by decide) (by decide) _ al 1 [.int .i64 1] (fun _ => True) (fun _ => False) rfl rfl rfl (fun _ h => h.elim) (fun _ _ => trivial) HFA.out.row HFA.out.bel HFA.out.bel.size HZ.out ?_)
          intro v1 w2 hR1 hB1 hg1 hat
          obtain ⟨A3, n3, rfl⟩ := Kd.R_slice hR1
          have HFA' := Aside0.mk (HFA.out.app hR1 hB1 hg1)
          clear hR1 hB1 hg1 hat
          go_wp2
          go_roundg (c - (j + 1))
          case measure => exact hgk
          case rel =>
            refine ⟨j + 1, al ++ [1], by first | rfl | go_num, ⟨by omega, ?_⟩, HFA'⟩
            rw [List.replicate_succ', ← List.append_assoc, HM.out.2]
        · have g1 : decide ((j : Int) < (c : Int)) = false := decide_eq_false (by omega)
          have g2 : decide (j < c) = false := decide_eq_false dj
          have HAL := Aside0.mk (show al = acc ++ List.replicate (x - 3).toNat 1 by rw [HM.out.2, ← HC.out.1]; congr 2; have := HM.out; omega)
          clear HM
          have HA9 := Aside0.mk (show ∀ z, z ∈ al → z = 0 ∨ z = 1 ∨ z = 2 from fun z hz => by
            rw [HAL.out, List.mem_append] at hz
            rcases hz with hz | hz
            · exact HF.out.1 z hz
            · exact .inr (.inl (List.eq_of_mem_replicate hz)))
          have HLN := Aside0.mk (show al.length ≤ 4398046511104 by rw [HAL.out, List.length_append, List.length_replicate]; have := rollF_range HX.out; have := HF.out.2.1; have := HSM.out; omega)
          have HB9 := Aside0.mk HFA.out.bel
          have HL8 := Aside0.mk (show stepsL k al [] = some r by rw [HAL.out]; exact HL9.out)
          go_wp2_with (go_at_call 71; (with_reducible refine (steps_calls k _ _ al r _ (Kd.R_reads' HFA.out.row).2.2 (Kd.R_reads' HFA.out.row).2.1 HA9.out HLN.out HL8.out).mono ?_); rintro e1 w6 ⟨v6, rfl, hR, hb⟩; obtain ⟨A9, n9, hv9⟩ := Kd.R_slice hR; subst hv9; have HR9 := Aside0.mk (Kd.R_lower hR HB9.out.size); have HB8 := Aside0.mk (below_step HB9.out hb); clear hR hb)
          first | go_ret | go_ret2
          exact ⟨_, rfl, HR9.out, HB8.out⟩
end Go.Proofs.Ytdgemabmmomebaa.PAxis

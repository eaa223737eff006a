/- The contract of span.merged, whatever pure function it is handed, and of the three functions that it is handed. -/
import Derived.Test.YtdgemabmmomebaaPSpanx2
import Derived.Test.YtdgemabmmomebaaPSpanx3
namespace Go.Proofs.Ytdgemabmmomebaa.PSpan
open Go.RowKit Go.Proofs.YtdgemabmmomebaaW.PrintWords Go.Proofs.YtdgemabmmomebaaW.PrintLast Go.Proofs.YtdgemabmmomebaaW.PrintMore
set_option linter.unusedVariables false
set_option linter.unusedSimpArgs false
attribute [local go_sem] max2_int min2_int max_two min_two max_three min_three max_four min_four

theorem union1 (x y : Bool) (w : World) : Calls Try.prog 59 #[.bool x, .bool y] w fun e w' => e = .returned (.bool (x || y)) ∧ w' = w := by
  cases x
  all_goals
    go_enter Try.func59, Try.ntmps59
    go_wp2
    go_ret
    exact ⟨rfl, rfl⟩
theorem meet1 (x y : Bool) (w : World) : Calls Try.prog 60 #[.bool x, .bool y] w fun e w' => e = .returned (.bool (x && y)) ∧ w' = w := by
  cases x
  all_goals
    go_enter Try.func60, Try.ntmps60
    go_wp2
    go_ret
    exact ⟨rfl, rfl⟩
theorem minus1 (x y : Bool) (w : World) : Calls Try.prog 61 #[.bool x, .bool y] w fun e w' => e = .returned (.bool (x && !y)) ∧ w' = w := by
  cases x
  all_goals
    go_enter Try.func61, Try.ntmps61
    go_wp2
    go_ret
    exact ⟨rfl, rfl⟩

def next1 (a : List S29) (i : Int) : Option Int := if i < 2 * (a.length : Int) then span_end.f a i else some 2147483648
def next2 (b : List S29) (j n : Int) : Option Int := if j < 2 * (b.length : Int) then (span_end.f b j).bind fun e => some (mn n e) else some n
def step3 (W : Bool → Bool → Bool) (out : List S29) (at_ nx i j : Int) : Option (List S29) := if at_ < nx then (if W (i % 2 == 1) (j % 2 == 1) = true then span_add.f out at_ nx else some out) else some out
def skipF (l : List S29) (at_ : Int) : Nat → Int → Option Int
  | 0, _ => none
  | k + 1, i => if i < 2 * (l.length : Int) then (span_end.f l i).bind fun e => if e = at_ then skipF l at_ k (i + 1) else some i else some i
def mrgL (W : Bool → Bool → Bool) (a b : List S29) : Nat → List S29 → Int → Int → Int → Option (List S29)
  | 0, _, _, _, _ => none
  | k + 1, out, at_, i, j => if i < 2 * (a.length : Int) ∨ j < 2 * (b.length : Int) then
      (next1 a i).bind fun n1 => (next2 b j n1).bind fun nx => (step3 W out at_ nx i j).bind fun out' => (skipF a nx k i).bind fun i' => (skipF b nx k j).bind fun j' => mrgL W a b k out' nx i' j'
    else some out

theorem skip_le {l : List S29} {at_ : Int} : ∀ {k : Nat} {i i' : Int}, skipF l at_ k i = some i' → i ≤ 2 * (l.length : Int) → i ≤ i' ∧ i' ≤ 2 * (l.length : Int) := by
  intro k
  induction k with
  | zero => intro i i' h; cases h
  | succ k ih =>
    intro i i' h hi
    rw [skipF] at h
    by_cases c : i < 2 * (l.length : Int)
    · rw [if_pos c] at h
      obtain ⟨e, he, h⟩ := Option.bind_eq_some_iff.1 h
      by_cases c2 : e = at_
      · rw [if_pos c2] at h
        have := ih h (by omega)
        omega
      · rw [if_neg c2] at h
        cases h
        omega
    · rw [if_neg c] at h
      cases h
      omega

theorem R_drawn {w0 w w' : World} {v : Value} {l : List S29} (h : Kd.R k29 29 w w0.heap.size (fun _ => True) v l) (hd : Drawn0 w w') : Kd.R k29 29 w' w0.heap.size (fun _ => True) v l := Kd.R_below h hd.below
theorem B_drawn {w0 w w' : World} (h : Below w0.heap.size w0 w) (hd : Drawn0 w w') : Below w0.heap.size w0 w' := below_step h hd.below

set_option maxRecDepth 100000 in
set_option maxHeartbeats 16000000 in
theorem merged_calls (g : Nat) (hent : ∀ (args : Array Value) (w : World), (callFunc g args).run Try.prog w = .ok (.enter g args) w) (W : Bool → Bool → Bool)
    (hcl : ∀ (x y : Bool) (w : World), Calls Try.prog g #[.bool x, .bool y] w fun e w' => e = .returned (.bool (W x y)) ∧ w' = w)
    (k : Nat) (A0 : Option Addr) (c0 : Nat) (a : List S29) (A1 : Option Addr) (c1 : Nat) (b : List S29) (r : List S29) (w : World)
    (hr0 : Kd.C k29 w A0 a.length a) (hc0 : a.length ≤ c0) (hr1 : Kd.C k29 w A1 b.length b) (hc1 : b.length ≤ c1) (hla : a.length ≤ 1099511627776) (hlb : b.length ≤ 1099511627776) (h : mrgL W a b k [] 0 0 0 = some r) :
    Calls Try.prog 101 #[.slice A0 a.length c0, .slice A1 b.length c1, .func (.func g) #[] #[]] w fun e w' => ∃ v0_ : Value, e = .returned (v0_) ∧ Kd.R k29 29 w' w.heap.size (fun _ => True) v0_ r ∧ Below w.heap.size w w' := by
  have hu29 := Try.underlying29
  have HR0 := Aside0.mk hr0
  have HC0 := Aside0.mk hc0
  have HR1 := Aside0.mk hr1
  have HC1 := Aside0.mk hc1
  have HCL := Aside0.mk hcl
  have H' := Aside0.mk h
  clear hr0 hc0 hr1 hc1 hcl h
  go_enter Try.func101, Try.ntmps101
  go_wp2
  go_loopg [7, 8, 9, 10] k (fun kq v7 v8 v9 v10 wr => ∃ (out : List S29) (at_ i j : Int), v8 = .int .i64 at_ ∧ v9 = .int .i64 i ∧ v10 = .int .i64 j ∧ 0 ≤ i ∧ i ≤ 2 * (a.length : Int) ∧ 0 ≤ j ∧ j ≤ 2 * (b.length : Int) ∧
    Aside0 (mrgL W a b kq out at_ i j = some r) ∧ Aside0 (Kd.R k29 29 wr w.heap.size (fun _ => True) v7 out) ∧ Aside0 (Below w.heap.size w wr))
  case atStart => exact ⟨[], 0, 0, 0, rfl, rfl, rfl, by omega, by omega, by omega, by omega, H', ⟨Kd.R_nil _ _ _ _ _⟩, ⟨Below.refl _ _⟩⟩
  case round =>
    clear H'
    obtain ⟨out, at_, i, j, rfl, rfl, rfl, i0, i1, j0, j1, HA, HO, HB⟩ := hrel
    cases gk with
    | zero => exact absurd HA.out (by simp [mrgL])
    | succ k1 =>
      have H := HA.out
      clear HA
      rw [mrgL] at H
      by_cases c3 : i < 2 * (a.length : Int) ∨ j < 2 * (b.length : Int)
      · rw [if_pos c3] at H
        replace H := Option.bind_eq_some_iff.1 H
        obtain ⟨n1, hn1, H⟩ := H
        replace H := Option.bind_eq_some_iff.1 H
        obtain ⟨nx, hnx, H⟩ := H
        replace H := Option.bind_eq_some_iff.1 H
        obtain ⟨out', hout, H⟩ := H
        replace H := Option.bind_eq_some_iff.1 H
        obtain ⟨i', hi', H⟩ := H
        replace H := Option.bind_eq_some_iff.1 H
        obtain ⟨j', hj', H⟩ := H
        have HN1 := Aside0.mk hn1
        have HNX := Aside0.mk hnx
        have HOUT := Aside0.mk hout
        have HI := Aside0.mk hi'
        have HJ := Aside0.mk hj'
        have HM := Aside0.mk H
        clear hn1 hnx hout hi' hj' H
        have HC3 := Aside0.mk c3
        clear c3
        obtain ⟨A7, c7, hv7, hx⟩ := Kd.R_reads HO.out
        clear hx
        subst hv7
        have ways : decide (i < 2 * (a.length : Int)) = true ∨ (decide (i < 2 * (a.length : Int)) = false ∧ decide (j < 2 * (b.length : Int)) = true) := by
          by_cases ca : i < 2 * (a.length : Int)
          · exact .inl (decide_eq_true ca)
          · exact .inr ⟨decide_eq_false ca, decide_eq_true (HC3.out.resolve_left ca)⟩
        rcases ways with q0 | ⟨q0, q1⟩
        all_goals
          go_upto_region 4 with (fail)
          clear q0
          try clear q1
          obtain ⟨ta, hta⟩ : ∃ t : Bool, decide (i < 2 * (a.length : Int)) = t := ⟨_, rfl⟩
          go_upto_if 28 with (fail)
          go_cut [11] (fun v11 wc => v11 = .int .i64 n1 ∧ Aside0 (Drawn0 wr wc))
          case first =>
            cases ta with
            | true =>
              have ca := of_decide_eq_true hta
              have HF := Aside0.mk (show span_end.f a i = some n1 by have := HN1.out; rw [next1, if_pos ca] at this; exact this)
              clear ca
              go_wp2_with (go_at_call 118; (with_reducible refine (span_end.calls _ _ a i n1 _ (Kd.C_below HR0.out HB.out) HC0.out HF.out).mono ?_); rintro e w' ⟨rfl, hd⟩)
              have HD := Aside0.mk hd
              clear hd
              go_wp2
              go_meet
              case rel => exact ⟨rfl, HD⟩
            | false =>
              have ca := of_decide_eq_false hta
              have HF := Aside0.mk (show n1 = 2147483648 by have := HN1.out; rw [next1, if_neg ca] at this; exact (Option.some.inj this).symm)
              clear ca
              go_wp2
              go_meet
              case rel => exact ⟨by rw [HF.out], ⟨Drawn0.refl _⟩⟩
          case rest =>
            clear hta
            obtain ⟨rfl, HD⟩ := hcut
            have HB1 := Aside0.mk (B_drawn HB.out HD.out)
            have HO1 := Aside0.mk (R_drawn HO.out HD.out)
            clear HB HO HD
            obtain ⟨tb, htb⟩ : ∃ t : Bool, decide (j < 2 * (b.length : Int)) = t := ⟨_, rfl⟩
            go_upto_if 36 with (fail)
            go_cut [11] (fun v11 wd => v11 = .int .i64 nx ∧ Aside0 (Drawn0 wc wd))
            case first =>
              cases tb with
              | true =>
                have cb := of_decide_eq_true htb
                have hf := HNX.out
                rw [next2, if_pos cb] at hf
                replace hf := Option.bind_eq_some_iff.1 hf
                obtain ⟨e2, he2, hf⟩ := hf
                have HF := Aside0.mk he2
                have hnm : (if e2 < n1 then e2 else n1) = nx := by have := Option.some.inj hf; unfold mn at this; exact this
                clear cb hf he2
                go_wp2_with (go_at_call 118; (with_reducible refine (span_end.calls _ _ b j e2 _ (Kd.C_below HR1.out HB1.out) HC1.out HF.out).mono ?_); rintro e w' ⟨rfl, hd⟩)
                have HD := Aside0.mk hd
                clear hd
                go_wp2
                go_meet
                case rel => exact ⟨rfl, HD⟩
              | false =>
                have cb := of_decide_eq_false htb
                have HF := Aside0.mk (show nx = n1 by have := HNX.out; rw [next2, if_neg cb] at this; exact (Option.some.inj this).symm)
                clear cb
                go_wp2
                go_meet
                case rel => exact ⟨by rw [HF.out], ⟨Drawn0.refl _⟩⟩
            case rest =>
              clear htb
              obtain ⟨rfl, HD⟩ := hcut
              have HB2 := Aside0.mk (B_drawn HB1.out HD.out)
              have HO2 := Aside0.mk (R_drawn HO1.out HD.out)
              clear HB1 HO1 HD
              go_upto_region 9 with (fail)
              go_cut [54] (fun v54 we => ∃ t : Bool, v54 = .bool t ∧ Aside0 ((decide (at_ < nx) && W (i % 2 == 1) (j % 2 == 1)) = t) ∧ Aside0 (Drawn0 wc we))
              case first =>
                by_cases cn : at_ < nx
                · have cn' : decide (at_ < nx) = true := decide_eq_true cn
                  clear cn
                  go_wp2_with (fail)
                  refine (HCL.out _ _ _).mono ?_
                  rintro e w' ⟨rfl, rfl⟩
                  go_wp2
                  go_meet
                  case rel => exact ⟨_, rfl, ⟨by rw [cn']; rfl⟩, ⟨Drawn0.refl _⟩⟩
                · have cn' : decide (at_ < nx) = false := decide_eq_false cn
                  clear cn
                  go_wp2
                  go_meet
                  case rel => exact ⟨false, rfl, ⟨by rw [cn']; rfl⟩, ⟨Drawn0.refl _⟩⟩
              case rest =>
                obtain ⟨t, rfl, HT, HD⟩ := hcut
                have HB4 := Aside0.mk (B_drawn HB2.out HD.out)
                have HO4 := Aside0.mk (R_drawn HO2.out HD.out)
                clear HB2 HO2 HD
                have HB2 := HB4
                have HO2 := HO4
                clear HB4 HO4
                go_upto_if 54 with (fail)
                go_cut [7] (fun v7 wf => Aside0 (Kd.R k29 29 wf w.heap.size (fun _ => True) v7 out') ∧ Aside0 (Below w.heap.size w wf))
                case first =>
                  cases t with
                  | false =>
                    have HF := Aside0.mk (show out = out' by
                      have h1 := HT.out
                      have h2 := HOUT.out
                      rw [step3] at h2
                      by_cases cn : at_ < nx
                      · rw [decide_eq_true cn, Bool.true_and] at h1
                        rw [if_pos cn, if_neg (by rw [h1]; decide)] at h2
                        exact Option.some.inj h2
                      · rw [if_neg cn] at h2
                        exact Option.some.inj h2)
                    go_wp2
                    go_meet
                    case rel => exact ⟨⟨by rw [← HF.out]; exact HO2.out⟩, HB2⟩
                  | true =>
                    have HF := Aside0.mk (show span_add.f out at_ nx = some out' by
                      have h1 := HT.out
                      have h2 := HOUT.out
                      rw [Bool.and_eq_true] at h1
                      rw [step3, if_pos (of_decide_eq_true h1.1), if_pos h1.2] at h2
                      exact h2)
                    go_wp2_with (go_at_call 119; (refine (span_add.calls (fun _ => True) _ out at_ nx out' w _ HB2.out HO2.out HF.out).mono ?_); rintro e w' ⟨v0, rfl, hR, hB, hK⟩)
                    have HO3 := Aside0.mk (Kd.R_mono hR (fun _ _ => trivial))
                    have HB3 := Aside0.mk hB
                    obtain ⟨A9, c9, hv9⟩ := Kd.R_slice hR
                    subst hv9
                    clear hR hB hK
                    go_wp2
                    go_meet
                    case rel => exact ⟨HO3, HB3⟩
                case rest =>
                  obtain ⟨HO3, HB3⟩ := hcut
                  obtain ⟨A8, c8, hv8, hx⟩ := Kd.R_reads HO3.out
                  clear hx
                  subst hv8
                  clear HO2 HB2 HT
                  go_wp2
                  go_loopg [9] k1 (fun kq v9 wr => ∃ q : Int, v9 = .int .i64 q ∧ 0 ≤ q ∧ q ≤ 2 * (a.length : Int) ∧ Aside0 (skipF a nx kq q = some i') ∧ Aside0 (Kd.R k29 29 wr w.heap.size (fun _ => True) (.slice A8 out'.length c8) out') ∧ Aside0 (Below w.heap.size w wr))
                  case atStart => exact ⟨i, rfl, i0, i1, HI, HO3, HB3⟩
                  case round =>
                    clear HO3 HB3
                    obtain ⟨q, rfl, q0, q1, HS, HO3, HB3⟩ := hrel
                    cases gk with
                    | zero => exact absurd HS.out (by simp [skipF])
                    | succ k2 =>
                      have hs := HS.out
                      rw [skipF] at hs
                      clear HS
                      by_cases cq : q < 2 * (a.length : Int)
                      · rw [if_pos cq] at hs
                        have cq' : decide (q < 2 * (a.length : Int)) = true := decide_eq_true cq
                        replace hs := Option.bind_eq_some_iff.1 hs
                        obtain ⟨e3, he3, hs⟩ := hs
                        have HE := Aside0.mk he3
                        clear he3
                        by_cases ce : e3 = nx
                        · rw [if_pos ce] at hs
                          have ce' : (e3 == nx) = true := beq_iff_eq.mpr ce
                          have HS := Aside0.mk hs
                          clear ce hs
                          go_wp2_with (go_at_call 118; (with_reducible refine (span_end.calls _ _ a q e3 _ (Kd.C_below HR0.out HB3.out) HC0.out HE.out).mono ?_); rintro e w' ⟨rfl, hd⟩)
                          have HB5 := Aside0.mk (B_drawn HB3.out hd)
                          have HO5 := Aside0.mk (R_drawn HO3.out hd)
                          clear hd
                          go_wp2
                          go_roundg k2
                          case measure => omega
                          case rel => exact ⟨q + 1, rfl, by omega, by omega, HS, HO5, HB5⟩
                        · rw [if_neg ce] at hs
                          have ce' : (e3 == nx) = false := beq_eq_false_iff_ne.mpr ce
                          have HS := Aside0.mk (Option.some.inj hs)
                          clear ce hs
                          go_wp2_with (go_at_call 118; (with_reducible refine (span_end.calls _ _ a q e3 _ (Kd.C_below HR0.out HB3.out) HC0.out HE.out).mono ?_); rintro e w' ⟨rfl, hd⟩)
                          have HB5 := Aside0.mk (B_drawn HB3.out hd)
                          have HO5 := Aside0.mk (R_drawn HO3.out hd)
                          clear hd
                          clear HB3 HO3
                          have HB3 := HB5
                          have HO3 := HO5
                          clear HB5 HO5
                          obtain rfl := HS.out
                          go_wp2
                          have hq0 := q0
                          have hq1 := q1
                          obtain ⟨q1_, hq⟩ : ∃ z : Int, z = q := ⟨_, rfl⟩
                          subst hq
                          clear q0 q1
                          try clear cq
                          try clear cq'
                          try clear ce'
                          go_loopg [10] k1 (fun kq v10 wr => ∃ q : Int, v10 = .int .i64 q ∧ 0 ≤ q ∧ q ≤ 2 * (b.length : Int) ∧ Aside0 (skipF b nx kq q = some j') ∧ Aside0 (Kd.R k29 29 wr w.heap.size (fun _ => True) (.slice A8 out'.length c8) out') ∧ Aside0 (Below w.heap.size w wr))
                          case atStart => exact ⟨j, rfl, j0, j1, HJ, HO3, HB3⟩
                          case round =>
                            clear HO3 HB3
                            obtain ⟨q, rfl, q0, q1, HS, HO3, HB3⟩ := hrel
                            cases gk with
                            | zero => exact absurd HS.out (by simp [skipF])
                            | succ k2 =>
                              have hs := HS.out
                              rw [skipF] at hs
                              clear HS
                              by_cases cq : q < 2 * (b.length : Int)
                              · rw [if_pos cq] at hs
                                have cq' : decide (q < 2 * (b.length : Int)) = true := decide_eq_true cq
                                replace hs := Option.bind_eq_some_iff.1 hs
                                obtain ⟨e3, he3, hs⟩ := hs
                                have HE := Aside0.mk he3
                                clear he3
                                by_cases ce : e3 = nx
                                · rw [if_pos ce] at hs
                                  have ce' : (e3 == nx) = true := beq_iff_eq.mpr ce
                                  have HS := Aside0.mk hs
                                  clear ce hs
                                  go_wp2_with (go_at_call 118; (with_reducible refine (span_end.calls _ _ b q e3 _ (Kd.C_below HR1.out HB3.out) HC1.out HE.out).mono ?_); rintro e w' ⟨rfl, hd⟩)
                                  have HB5 := Aside0.mk (B_drawn HB3.out hd)
                                  have HO5 := Aside0.mk (R_drawn HO3.out hd)
                                  clear hd
                                  go_wp2
                                  go_roundg k2
                                  case measure => omega
                                  case rel => exact ⟨q + 1, rfl, by omega, by omega, HS, HO5, HB5⟩
                                · rw [if_neg ce] at hs
                                  have ce' : (e3 == nx) = false := beq_eq_false_iff_ne.mpr ce
                                  have HS := Aside0.mk (Option.some.inj hs)
                                  clear ce hs
                                  go_wp2_with (go_at_call 118; (with_reducible refine (span_end.calls _ _ b q e3 _ (Kd.C_below HR1.out HB3.out) HC1.out HE.out).mono ?_); rintro e w' ⟨rfl, hd⟩)
                                  have HB5 := Aside0.mk (B_drawn HB3.out hd)
                                  have HO5 := Aside0.mk (R_drawn HO3.out hd)
                                  clear hd
                                  clear HB3 HO3
                                  have HB3 := HB5
                                  have HO3 := HO5
                                  clear HB5 HO5
                                  obtain rfl := HS.out
                                  go_wp2
                                  go_roundg k1
                                  case measure => omega
                                  case rel => exact ⟨out', nx, q1_, q, rfl, rfl, rfl, by omega, by omega, by omega, by omega, HM, HO3, HB3⟩
                              · rw [if_neg cq] at hs
                                have cq' : decide (q < 2 * (b.length : Int)) = false := decide_eq_false cq
                                have HS := Aside0.mk (Option.some.inj hs)
                                clear hs
                                obtain rfl := HS.out
                                go_wp2
                                go_roundg k1
                                case measure => omega
                                case rel => exact ⟨out', nx, q1_, q, rfl, rfl, rfl, by omega, by omega, by omega, by omega, HM, HO3, HB3⟩
                      · rw [if_neg cq] at hs
                        have cq' : decide (q < 2 * (a.length : Int)) = false := decide_eq_false cq
                        have HS := Aside0.mk (Option.some.inj hs)
                        clear hs
                        obtain rfl := HS.out
                        go_wp2
                        have hq0 := q0
                        have hq1 := q1
                        obtain ⟨q1_, hq⟩ : ∃ z : Int, z = q := ⟨_, rfl⟩
                        subst hq
                        clear q0 q1
                        try clear cq
                        try clear cq'
                        try clear ce'
                        go_loopg [10] k1 (fun kq v10 wr => ∃ q : Int, v10 = .int .i64 q ∧ 0 ≤ q ∧ q ≤ 2 * (b.length : Int) ∧ Aside0 (skipF b nx kq q = some j') ∧ Aside0 (Kd.R k29 29 wr w.heap.size (fun _ => True) (.slice A8 out'.length c8) out') ∧ Aside0 (Below w.heap.size w wr))
                        case atStart => exact ⟨j, rfl, j0, j1, HJ, HO3, HB3⟩
                        case round =>
                          clear HO3 HB3
                          obtain ⟨q, rfl, q0, q1, HS, HO3, HB3⟩ := hrel
                          cases gk with
                          | zero => exact absurd HS.out (by simp [skipF])
                          | succ k2 =>
                            have hs := HS.out
                            rw [skipF] at hs
                            clear HS
                            by_cases cq : q < 2 * (b.length : Int)
                            · rw [if_pos cq] at hs
                              have cq' : decide (q < 2 * (b.length : Int)) = true := decide_eq_true cq
                              replace hs := Option.bind_eq_some_iff.1 hs
                              obtain ⟨e3, he3, hs⟩ := hs
                              have HE := Aside0.mk he3
                              clear he3
                              by_cases ce : e3 = nx
                              · rw [if_pos ce] at hs
                                have ce' : (e3 == nx) = true := beq_iff_eq.mpr ce
                                have HS := Aside0.mk hs
                                clear ce hs
                                go_wp2_with (go_at_call 118; (with_reducible refine (span_end.calls _ _ b q e3 _ (Kd.C_below HR1.out HB3.out) HC1.out HE.out).mono ?_); rintro e w' ⟨rfl, hd⟩)
                                have HB5 := Aside0.mk (B_drawn HB3.out hd)
                                have HO5 := Aside0.mk (R_drawn HO3.out hd)
                                clear hd
                                go_wp2
                                go_roundg k2
                                case measure => omega
                                case rel => exact ⟨q + 1, rfl, by omega, by omega, HS, HO5, HB5⟩
                              · rw [if_neg ce] at hs
                                have ce' : (e3 == nx) = false := beq_eq_false_iff_ne.mpr ce
                                have HS := Aside0.mk (Option.some.inj hs)
                                clear ce hs
                                go_wp2_with (go_at_call 118; (with_reducible refine (span_end.calls _ _ b q e3 _ (Kd.C_below HR1.out HB3.out) HC1.out HE.out).mono ?_); rintro e w' ⟨rfl, hd⟩)
                                have HB5 := Aside0.mk (B_drawn HB3.out hd)
                                have HO5 := Aside0.mk (R_drawn HO3.out hd)
                                clear hd
                                clear HB3 HO3
                                have HB3 := HB5
                                have HO3 := HO5
                                clear HB5 HO5
                                obtain rfl := HS.out
                                go_wp2
                                go_roundg k1
                                case measure => omega
                                case rel => exact ⟨out', nx, q1_, q, rfl, rfl, rfl, by omega, by omega, by omega, by omega, HM, HO3, HB3⟩
                            · rw [if_neg cq] at hs
                              have cq' : decide (q < 2 * (b.length : Int)) = false := decide_eq_false cq
                              have HS := Aside0.mk (Option.some.inj hs)
                              clear hs
                              obtain rfl := HS.out
                              go_wp2
                              go_roundg k1
                              case measure => omega
                              case rel => exact ⟨out', nx, q1_, q, rfl, rfl, rfl, by omega, by omega, by omega, by omega, HM, HO3, HB3⟩
      · have ca' : decide (i < 2 * (a.length : Int)) = false := decide_eq_false (by omega)
        have cb' : decide (j < 2 * (b.length : Int)) = false := decide_eq_false (by omega)
        rw [if_neg c3] at H
        have HF := Aside0.mk (Option.some.inj H)
        clear c3 H
        obtain ⟨A7, c7, hv7, hx⟩ := Kd.R_reads HO.out
        clear hx
        subst hv7
        go_wp2
        go_ret
        exact ⟨_, rfl, by rw [← HF.out]; exact HO.out, HB.out⟩
end Go.Proofs.Ytdgemabmmomebaa.PSpan

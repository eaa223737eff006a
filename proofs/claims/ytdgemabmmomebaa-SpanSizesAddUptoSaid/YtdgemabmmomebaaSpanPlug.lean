/- The contracts of span.Union, Meet and Minus in the form that the printed texts take. -/
-- PLUG span.Union rounds making
-- PLUG span.Meet rounds making
-- PLUG span.Minus rounds making
import Derived.Test.YtdgemabmmomebaaSpanPlug1
namespace Go.Proofs.Ytdgemabmmomebaa.PSpan
open Go.RowKit Go.Proofs.YtdgemabmmomebaaW.PrintWords Go.Proofs.YtdgemabmmomebaaW.PrintLast Go.Proofs.YtdgemabmmomebaaW.PrintMore
set_option linter.unusedVariables false
set_option linter.unusedSimpArgs false

theorem enters_any {g : Nat} {fn : Func} {c : Code} (hf : Try.prog.funcs[g]? = some fn) (hname : (fn.name == "runtime.NumGoroutine") = false) (hb : fn.body = some c) (args : Array Value) (w : World) :
    (callFunc g args).run Try.prog w = .ok (.enter g args) w := by
  have h1 : fn.name ≠ "runtime.NumGoroutine" := by simpa using hname
  simp [callFunc, hf, h1, hb, mark]
theorem skip_mono (l : List S29) (at_ : Int) : ∀ (k : Nat) (i : Int), LeO (skipF l at_ k i) (skipF l at_ (k + 1) i)
  | 0, i => fun r h => by cases h
  | k + 1, i => by
    rw [skipF, skipF]
    exact LeO.ite (LeO.bind (LeO.refl _) (fun e => LeO.ite (skip_mono l at_ k (i + 1)) (LeO.refl _))) (LeO.refl _)
theorem mrgL_mono (W : Bool → Bool → Bool) (a b : List S29) : ∀ (k : Nat) (out : List S29) (at_ i j : Int), LeO (mrgL W a b k out at_ i j) (mrgL W a b (k + 1) out at_ i j)
  | 0, out, at_, i, j => fun r h => by cases h
  | k + 1, out, at_, i, j => by
    rw [mrgL, mrgL]
    exact LeO.ite (LeO.bind (LeO.refl _) (fun n1 => LeO.bind (LeO.refl _) (fun nx => LeO.bind (LeO.refl _) (fun out' => LeO.bind (skip_mono a nx k i) (fun i' => LeO.bind (skip_mono b nx k j) (fun j' => mrgL_mono W a b k out' nx i' j')))))) (LeO.refl _)
/-- Two sets, checked and combined. -/
def twoF (W : Bool → Bool → Bool) (k : Nat) (l0 l1 : List S29) : Option (List S29 × Int) :=
  (span_Check.f k l0).bind fun e => if e = 0 then (span_Check.f k l1).bind fun e' => if e' = 0 then (if l0.length ≤ 1099511627776 ∧ l1.length ≤ 1099511627776 then (mrgL W l0 l1 k [] 0 0 0).bind fun o => some (o, 0) else none) else some ([], e') else some ([], e)
theorem twoF_mono (W : Bool → Bool → Bool) (l0 l1 : List S29) (k : Nat) : LeO (twoF W k l0 l1) (twoF W (k + 1) l0 l1) :=
  LeO.bind (span_Check.mono l0 k) (fun e => LeO.ite (LeO.bind (span_Check.mono l1 k) (fun e' => LeO.ite (LeO.ite (LeO.bind (mrgL_mono W l0 l1 k _ _ _ _) (fun o => LeO.refl _)) (LeO.refl _)) (LeO.refl _))) (LeO.refl _))

set_option maxRecDepth 100000 in
set_option maxHeartbeats 4000000 in
theorem two_calls (g : Nat) (hent : ∀ (args : Array Value) (w : World), (callFunc g args).run Try.prog w = .ok (.enter g args) w) (W : Bool → Bool → Bool)
    (hcl : ∀ (x y : Bool) (w : World), Calls Try.prog g #[.bool x, .bool y] w fun e w' => e = .returned (.bool (W x y)) ∧ w' = w)
    (k : Nat) (A0 : Option Addr) (c0 : Nat) (l0 : List (S29)) (A1 : Option Addr) (c1 : Nat) (l1 : List (S29)) (r1 : List (S29)) (r2 : Int) (w : World) (hr0 : Kd.C k29 w A0 l0.length l0) (hc0 : l0.length ≤ c0) (hr1 : Kd.C k29 w A1 l1.length l1) (hc1 : l1.length ≤ c1) (h : twoF W k l0 l1 = some (r1, r2)) :
    Calls Try.prog 58 #[.slice A0 l0.length c0, .slice A1 l1.length c1, .func (.func g) #[] #[]] w fun e w' => ∃ v0_ : Value, e = .returned (.tuple #[v0_, .int .i64 r2]) ∧ Kd.R k29 29 w' w.heap.size (fun _ => True) v0_ r1 ∧ Below w.heap.size w w' := by
  have HR0 := Aside0.mk hr0
  have HC0 := Aside0.mk hc0
  have HR1 := Aside0.mk hr1
  have HC1 := Aside0.mk hc1
  have HCL := Aside0.mk hcl
  have HENT := Aside0.mk hent
  have HB := Aside0.mk (Below.refl w.heap.size w)
  clear hr0 hc0 hr1 hc1 hcl hent
  rw [twoF] at h
  replace h := Option.bind_eq_some_iff.1 h
  obtain ⟨e, he, h⟩ := h
  have HE := Aside0.mk he
  clear he
  by_cases c3 : e = 0
  · rw [if_pos c3] at h
    have c3b : (e != 0) = false := bne_eq_false_iff_eq.mpr c3
    clear c3
    replace h := Option.bind_eq_some_iff.1 h
    obtain ⟨e', he', h⟩ := h
    have HE' := Aside0.mk he'
    clear he'
    by_cases c4 : e' = 0
    · rw [if_pos c4] at h
      have c4b : (e' != 0) = false := bne_eq_false_iff_eq.mpr c4
      clear c4
      by_cases c5 : l0.length ≤ 1099511627776 ∧ l1.length ≤ 1099511627776
      · rw [if_pos c5] at h
        have HC5 := Aside0.mk c5
        clear c5
        replace h := Option.bind_eq_some_iff.1 h
        obtain ⟨o, ho, h⟩ := h
        have HOO := Aside0.mk ho
        clear ho
        simp only [Option.some.injEq, Prod.mk.injEq] at h
        obtain ⟨rfl, rfl⟩ := h
        go_enter Try.func58, Try.ntmps58
        go_wp2_with (go_at_call 19; (with_reducible refine (span_Check.calls k _ _ l0 e _ HR0.out HC0.out HE.out).mono ?_); rintro e1 w1 ⟨rfl, hb⟩; have HB1 := Aside0.mk hb; clear hb)
        go_wp2_with (go_at_call 19; (with_reducible refine (span_Check.calls k _ _ l1 e' _ (Kd.C_below HR1.out HB1.out) HC1.out HE'.out).mono ?_); rintro e1 w2 ⟨rfl, hb⟩; have HB2 := Aside0.mk (below_step HB1.out hb); clear hb)
        go_wp2_with (go_at_call 101; refine (merged_calls g HENT.out W HCL.out k _ _ l0 _ _ l1 o _ (Kd.C_below HR0.out HB2.out) HC0.out (Kd.C_below HR1.out HB2.out) HC1.out HC5.out.1 HC5.out.2 HOO.out).mono ?_; rintro e1 w3 ⟨v, rfl, hR, hb⟩)
        obtain ⟨A9, n9, hv9⟩ := Kd.R_slice hR
        subst hv9
        have HR9 := Aside0.mk (Kd.R_lower hR HB2.out.size)
        have HB9 := Aside0.mk (below_step HB2.out hb)
        clear hR hb
        go_wp2
        go_ret2
        exact ⟨_, rfl, HR9.out, HB9.out⟩
      · rw [if_neg c5] at h
        cases h
    · rw [if_neg c4] at h
      have c4b : (e' != 0) = true := bne_iff_ne.mpr c4
      clear c4
      simp only [Option.some.injEq, Prod.mk.injEq] at h
      obtain ⟨rfl, rfl⟩ := h
      go_enter Try.func58, Try.ntmps58
      go_wp2_with (go_at_call 19; (with_reducible refine (span_Check.calls k _ _ l0 e _ HR0.out HC0.out HE.out).mono ?_); rintro e1 w1 ⟨rfl, hb⟩; have HB1 := Aside0.mk hb; clear hb)
      go_wp2_with (go_at_call 19; (with_reducible refine (span_Check.calls k _ _ l1 _ _ (Kd.C_below HR1.out HB1.out) HC1.out HE'.out).mono ?_); rintro e1 w2 ⟨rfl, hb⟩; have HB2 := Aside0.mk (below_step HB1.out hb); clear hb)
      go_wp2
      go_ret2
      exact ⟨_, rfl, Kd.R_nil _ _ _ _ _, HB2.out⟩
  · rw [if_neg c3] at h
    have c3b : (e != 0) = true := bne_iff_ne.mpr c3
    clear c3
    simp only [Option.some.injEq, Prod.mk.injEq] at h
    obtain ⟨rfl, rfl⟩ := h
    go_enter Try.func58, Try.ntmps58
    go_wp2_with (go_at_call 19; (with_reducible refine (span_Check.calls k _ _ l0 _ _ HR0.out HC0.out HE.out).mono ?_); rintro e1 w1 ⟨rfl, hb⟩; have HB1 := Aside0.mk hb; clear hb)
    go_wp2
    go_ret2
    exact ⟨_, rfl, Kd.R_nil _ _ _ _ _, HB1.out⟩


def span_Union.f (k : Nat) (l0 l1 : List S29) : Option (List S29 × Int) := twoF or k l0 l1
theorem span_Union.mono : ∀ a0 a1 k, LeO (span_Union.f k a0 a1) (span_Union.f (k + 1) a0 a1) := fun a0 a1 k => twoF_mono _ a0 a1 k
set_option maxRecDepth 100000 in
set_option maxHeartbeats 4000000 in
theorem span_Union.calls (k : Nat) (A0 : Option Addr) (c0 : Nat) (l0 : List (S29)) (A1 : Option Addr) (c1 : Nat) (l1 : List (S29)) (r1 : List (S29)) (r2 : Int) (w : World) (hr0 : Kd.C k29 w A0 l0.length l0) (hc0 : l0.length ≤ c0) (hr1 : Kd.C k29 w A1 l1.length l1) (hc1 : l1.length ≤ c1) (h : span_Union.f k l0 l1 = some (r1, r2)) :
    Calls Try.prog 16 #[.slice A0 l0.length c0, .slice A1 l1.length c1] w fun e w' => ∃ v0_ : Value, e = .returned (.tuple #[v0_, .int .i64 r2]) ∧ Kd.R k29 29 w' w.heap.size (fun _ => True) v0_ r1 ∧ Below w.heap.size w w' := by
  have HT := Aside0.mk (two_calls 59 (enters_any Try.func59 rfl rfl) or union1 k A0 c0 l0 A1 c1 l1 r1 r2 w hr0 hc0 hr1 hc1 h)
  clear hr0 hc0 hr1 hc1 h
  go_enter Try.func16, Try.ntmps16
  go_wp2_with (go_at_call 58; refine HT.out.mono ?_; rintro e1 w1 ⟨v, rfl, hR, hb⟩)
  obtain ⟨A9, n9, hv9⟩ := Kd.R_slice hR
  subst hv9
  have HR9 := Aside0.mk hR
  have HB9 := Aside0.mk hb
  clear hR hb
  go_wp2
  go_ret2
  exact ⟨_, rfl, HR9.out, HB9.out⟩


def span_Meet.f (k : Nat) (l0 l1 : List S29) : Option (List S29 × Int) := twoF and k l0 l1
theorem span_Meet.mono : ∀ a0 a1 k, LeO (span_Meet.f k a0 a1) (span_Meet.f (k + 1) a0 a1) := fun a0 a1 k => twoF_mono _ a0 a1 k
set_option maxRecDepth 100000 in
set_option maxHeartbeats 4000000 in
theorem span_Meet.calls (k : Nat) (A0 : Option Addr) (c0 : Nat) (l0 : List (S29)) (A1 : Option Addr) (c1 : Nat) (l1 : List (S29)) (r1 : List (S29)) (r2 : Int) (w : World) (hr0 : Kd.C k29 w A0 l0.length l0) (hc0 : l0.length ≤ c0) (hr1 : Kd.C k29 w A1 l1.length l1) (hc1 : l1.length ≤ c1) (h : span_Meet.f k l0 l1 = some (r1, r2)) :
    Calls Try.prog 17 #[.slice A0 l0.length c0, .slice A1 l1.length c1] w fun e w' => ∃ v0_ : Value, e = .returned (.tuple #[v0_, .int .i64 r2]) ∧ Kd.R k29 29 w' w.heap.size (fun _ => True) v0_ r1 ∧ Below w.heap.size w w' := by
  have HT := Aside0.mk (two_calls 60 (enters_any Try.func60 rfl rfl) and meet1 k A0 c0 l0 A1 c1 l1 r1 r2 w hr0 hc0 hr1 hc1 h)
  clear hr0 hc0 hr1 hc1 h
  go_enter Try.func17, Try.ntmps17
  go_wp2_with (go_at_call 58; refine HT.out.mono ?_; rintro e1 w1 ⟨v, rfl, hR, hb⟩)
  obtain ⟨A9, n9, hv9⟩ := Kd.R_slice hR
  subst hv9
  have HR9 := Aside0.mk hR
  have HB9 := Aside0.mk hb
  clear hR hb
  go_wp2
  go_ret2
  exact ⟨_, rfl, HR9.out, HB9.out⟩


def span_Minus.f (k : Nat) (l0 l1 : List S29) : Option (List S29 × Int) := twoF (fun x y => x && !y) k l0 l1
theorem span_Minus.mono : ∀ a0 a1 k, LeO (span_Minus.f k a0 a1) (span_Minus.f (k + 1) a0 a1) := fun a0 a1 k => twoF_mono _ a0 a1 k
set_option maxRecDepth 100000 in
set_option maxHeartbeats 4000000 in
theorem span_Minus.calls (k : Nat) (A0 : Option Addr) (c0 : Nat) (l0 : List (S29)) (A1 : Option Addr) (c1 : Nat) (l1 : List (S29)) (r1 : List (S29)) (r2 : Int) (w : World) (hr0 : Kd.C k29 w A0 l0.length l0) (hc0 : l0.length ≤ c0) (hr1 : Kd.C k29 w A1 l1.length l1) (hc1 : l1.length ≤ c1) (h : span_Minus.f k l0 l1 = some (r1, r2)) :
    Calls Try.prog 18 #[.slice A0 l0.length c0, .slice A1 l1.length c1] w fun e w' => ∃ v0_ : Value, e = .returned (.tuple #[v0_, .int .i64 r2]) ∧ Kd.R k29 29 w' w.heap.size (fun _ => True) v0_ r1 ∧ Below w.heap.size w w' := by
  have HT := Aside0.mk (two_calls 61 (enters_any Try.func61 rfl rfl) (fun x y => x && !y) minus1 k A0 c0 l0 A1 c1 l1 r1 r2 w hr0 hc0 hr1 hc1 h)
  clear hr0 hc0 hr1 hc1 h
  go_enter Try.func18, Try.ntmps18
  go_wp2_with (go_at_call 58; refine HT.out.mono ?_; rintro e1 w1 ⟨v, rfl, hR, hb⟩)
  obtain ⟨A9, n9, hv9⟩ := Kd.R_slice hR
  subst hv9
  have HR9 := Aside0.mk hR
  have HB9 := Aside0.mk hb
  clear hR hb
  go_wp2
  go_ret2
  exact ⟨_, rfl, HR9.out, HB9.out⟩

end Go.Proofs.Ytdgemabmmomebaa.PSpan

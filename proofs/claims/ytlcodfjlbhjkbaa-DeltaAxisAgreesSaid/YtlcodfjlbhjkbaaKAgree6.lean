/- The statement 'DeltaAxisAgrees': places follow a delta as elements do. -/
import Derived.Test.YtlcodfjlbhjkbaaKAgree5
import Derived.Test.YtlcodfjlbhjkbaaRows
import Derived.WalkKit
import Derived.ProofKit
import Derived.OpenShut
import Derived.ShutString
import Derived.ChangeOld
import Derived.Below
import Derived.SizedLaws
set_option linter.unusedVariables false
set_option linter.unusedSimpArgs false
section
namespace Go.Proofs.Ytlcodfjlbhjkbaa.PDelta
open Go.RowKit Go.Proofs.YtlcodfjlbhjkbaaW.PrintWords Go.Proofs.YtlcodfjlbhjkbaaW.PrintLast Go.Proofs.YtlcodfjlbhjkbaaW.PrintMore
def kd : Un → Ax.Un
 | .keep _ => .k
 | .cut => .c
 | .add _ => .a
def sizeI (s : S95) : Int := if s.f0 = 1 then (s.f3.length : Int) else s.f1
def axS (acc : List S121) (s : S95) : List S121 :=
 if s.f0 = 0 ∧ 0 < acc.length ∧ (rd_T121 acc ((acc.length : Int) - 1)).f0 = 0 then acc.set (acc.length - 1) ⟨(rd_T121 acc ((acc.length : Int) - 1)).f0, wrap64 ((rd_T121 acc ((acc.length : Int) - 1)).f1 + s.f1)⟩ else acc ++ [⟨s.f0, sizeI s⟩]
def axF : List S121 → List S95 → List S121
 | acc, [] => acc
 | acc, s :: d => axF (axS acc s) d
theorem axS_len (acc : List S121) (s : S95) : (axS acc s).length ≤ acc.length + 1 := by
 unfold axS
 split <;> simp
theorem axis_l0 (d : List S95) (hl : d.length ≤ 1073741824) (n : Nat) : ∀ (i : Nat) (acc : List S121), i + n = d.length → acc.length ≤ i →
  Ev (fun k => delta_Axis.l0 k acc d (d.length : Int) (i : Int)) (axF acc (d.drop i), 0) := by
 induction n with
 | zero =>
  intro i acc hi ha
  rw [List.drop_eq_nil_of_le (by omega), axF]
  refine Ev.step (f := fun _ => some (acc, 0)) (fun k => ?_) (Ev.now _)
  simp only [delta_Axis.l0]
  rw [if_neg (by omega)]
 | succ n ih =>
  intro i acc hi ha
  have hlt : i < d.length := by omega
  rw [drop_T95 d i hlt, axF]
  refine Ev.step (f := fun k => delta_Axis.l0 k (axS acc (rd_T95 d (i : Int))) d (d.length : Int) ((i + 1 : Nat) : Int)) (fun k => ?_) (ih (i + 1) _ (by omega) (by have := axS_len acc (rd_T95 d (i : Int)); omega))
  simp only [delta_Axis.l0]
  rw [if_pos (by omega), if_pos (by omega), if_pos (by omega), wrap_up (by omega) (by omega), show wrap64 ((acc.length : Int) - 1) = (acc.length : Int) - 1 from w64 (by omega) (by omega), size_is, show ((i : Int) + 1) = ((i + 1 : Nat) : Int) from by omega]
  simp only [Option.bind_some]
  obtain ⟨s, hs⟩ : ∃ s, s = rd_T95 d (i : Int) := ⟨_, rfl⟩
  rw [← hs, show (if s.f0 = 1 then (s.f3.length : Int) else s.f1) = sizeI s from rfl]
  by_cases c0 : s.f0 = 0
  ·rw [if_pos c0]
   by_cases c1 : 0 < acc.length
   ·rw [if_pos (by omega), if_pos (by omega), if_pos (by omega)]
    by_cases c2 : (rd_T121 acc ((acc.length : Int) - 1)).f0 = 0
    ·rw [if_pos c2, show ((acc.length : Int) - 1).toNat = acc.length - 1 by omega, axS, if_pos ⟨c0, c1, c2⟩]
    ·rw [if_neg c2, if_pos (by omega), axS, if_neg (fun h => c2 h.2.2)]
   ·rw [if_neg (by omega), if_pos (by omega), axS, if_neg (fun h => c1 h.2.1)]
  ·rw [if_neg c0, if_pos (by omega), axS, if_neg (fun h => c0 h.1)]
theorem us_kd {s : S95} (h : StepOK s) : (us s).map kd = List.replicate (sizeI s).toNat (Ax.un s.f0) ∧ 1 ≤ sizeI s ∧ Ax.K3 s.f0 := by
 rcases h with h | h | h
 ·have e : sizeI s = s.f1 := if_neg (by omega)
  rw [us_keep h.1, e, List.map_replicate, h.1]
  exact ⟨rfl, h.2.1, .inl rfl⟩
 ·have e : sizeI s = (s.f3.length : Int) := if_pos h.1
  rw [us_add h.1, e, h.1, Int.toNat_natCast, List.map_map]
  refine ⟨?_, ?_, .inr (.inl rfl)⟩
  ·have : kd ∘ Un.add = fun _ => Ax.Un.a := rfl
   rw [this, List.map_const']
   rfl
  ·have := h.2.2.2.1
   have : s.f3.length ≠ 0 := fun e => this (List.length_eq_zero_iff.1 e)
   omega
 ·have e : sizeI s = s.f1 := if_neg (by omega)
  rw [us_cut h.1, e, List.map_replicate, h.1]
  exact ⟨rfl, h.2.1, .inr (.inr rfl)⟩
def kindO : Option S95 → Int
 | none => -1
 | some q => q.f0
theorem ax_last {acc : List S121} (h : 0 < acc.length) : ∃ o x, acc = o ++ [x] ∧ rd_T121 acc ((acc.length : Int) - 1) = x := by
 refine ⟨acc.dropLast, acc.getLast (fun h' => by rw [h'] at h; cases h), (List.dropLast_concat_getLast _).symm, ?_⟩
 rw [show (acc.length : Int) - 1 = ((acc.length - 1 : Nat) : Int) by omega]
 simp only [rd_T121, Int.toNat_natCast, List.getD_eq_getElem?_getD, List.getElem?_eq_getElem (show acc.length - 1 < acc.length by omega), Option.getD_some, List.getLast_eq_getElem]
theorem ax_ex_mem (o : List S121) (x : S121) : x.f1.toNat ≤ (Ax.ex (o ++ [x])).length := by
 rw [Ax.ex_app, Ax.ex_one, List.length_append, List.length_replicate]
 omega
theorem axF_spec : ∀ (d : List S95) (p : Option S95) (acc : List S121), (∀ s ∈ d, StepOK s) → ordOK p d → Ax.Fn (-1) acc → Ax.lk (-1) acc = kindO p → (acc = [] → p = none) → (Ax.ex acc).length + (units d).length ≤ 1073741824 →
  Ax.Fn (-1) (axF acc d) ∧ Ax.ex (axF acc d) = Ax.ex acc ++ (units d).map kd
 | [], p, acc, _, _, hf, _, _, _ => ⟨hf, by simp [axF, units_nil]⟩
 | s :: d, p, acc, hok, ho, hf, hk, hn, hl => by
  have hs := hok s List.mem_cons_self
  obtain ⟨u1, u2, u3⟩ := us_kd hs
  have ul : (us s).length = (sizeI s).toNat := by
   have := congrArg List.length u1
   simpa using this
  rw [units_cons, List.length_append] at hl
  rw [units_cons, List.map_append, u1, axF]
  have step : Ax.Fn (-1) (axS acc s) ∧ Ax.ex (axS acc s) = Ax.ex acc ++ List.replicate (sizeI s).toNat (Ax.un s.f0) ∧ Ax.lk (-1) (axS acc s) = s.f0 ∧ axS acc s ≠ [] := by
   unfold axS
   split
   ·rename_i c
    obtain ⟨c0, c1, c2⟩ := c
    obtain ⟨o, x, e, ex_⟩ := ax_last c1
    have em := ax_ex_mem o x
    rw [← e] at em
    have esz : sizeI s = s.f1 := if_neg (by omega)
    rw [ex_] at c2 ⊢
    have hfx := hf
    rw [e, Ax.Fn.app] at hfx
    have hx1 := hfx.2.2.1
    have ew : wrap64 (x.f1 + s.f1) = x.f1 + s.f1 := w64 (by omega) (by omega)
    have es : acc.set (acc.length - 1) ⟨x.f0, wrap64 (x.f1 + s.f1)⟩ = o ++ [⟨x.f0, x.f1 + s.f1⟩] := by
     rw [ew, e, List.length_append, List.length_singleton, show o.length + 1 - 1 = o.length by omega, List.set_append_right _ _ (Nat.le_refl _)]
     simp
    rw [es]
    refine ⟨?_, ?_, ?_, by simp⟩
    ·rw [Ax.Fn.app]
     exact ⟨hfx.1, hfx.2.1, by show 1 ≤ x.f1 + s.f1; omega, hfx.2.2.2.1, hfx.2.2.2.2.1, trivial⟩
    ·rw [Ax.ex_app, Ax.ex_one, e, Ax.ex_app, Ax.ex_one, List.append_assoc, esz, c2, c0, show (x.f1 + s.f1).toNat = x.f1.toNat + s.f1.toNat by omega, List.replicate_append_replicate]
    ·rw [Ax.lk_app]
     show x.f0 = s.f0
     omega
   ·rename_i c
    refine ⟨?_, ?_, ?_, by simp⟩
    ·rw [Ax.Fn.app]
     refine ⟨hf, u3, u2, ?_, ?_, trivial⟩
     ·rw [hk]
      intro e
      cases p with
      | none => exact absurd (show s.f0 = -1 from e) (by rcases u3 with h | h | h <;> omega)
      | some q =>
       have hq := ho.1 q rfl
       have e' : s.f0 = q.f0 := e
       by_cases c0 : s.f0 = 0
       ·have hne : 0 < acc.length := by
         cases acc with
         | nil => exact absurd (hn rfl) (by simp)
         | cons y l => simp
        obtain ⟨o, x, ee, ex_⟩ := ax_last hne
        refine c ⟨c0, hne, ?_⟩
        rw [ex_]
        rw [ee, Ax.lk_app] at hk
        have hk' : x.f0 = q.f0 := hk
        omega
       ·exact hq.1 ⟨e'.symm, .inl c0⟩
     ·rw [hk]
      rintro ⟨e1, e2⟩
      cases p with
      | none => exact absurd (show (-1 : Int) = 2 from e1) (by decide)
      | some q => exact (ho.1 q rfl).2 ⟨e1, e2⟩
    ·rw [Ax.ex_app, Ax.ex_one]
    ·rw [Ax.lk_app]
     rfl
  obtain ⟨s1, s2, s3, s4⟩ := step
  obtain ⟨r1, r2⟩ := axF_spec d (some s) (axS acc s) (fun x hx => hok x (List.mem_cons_of_mem _ hx)) ho.2 s1 s3 (fun e => absurd e s4) (by rw [s2, List.length_append, List.length_replicate]; omega)
  exact ⟨r1, by rw [r2, s2, List.append_assoc]⟩
theorem axis_ev (d : List S95) (hs : DSm d) (h : DOK d) (hl : (units d).length ≤ 1073741824) : ∃ a, Ev (fun k => delta_Axis.f k d) (a, 0) ∧ Ax.Fn (-1) a ∧ Ax.ex a = (units d).map kd := by
 obtain ⟨r, e, hr⟩ := check_ev d hs
 obtain rfl := hr.2 h
 have sp := axF_spec d none [] h.ok h.ord trivial rfl (fun _ => rfl) (by simp [Ax.ex_nil]; exact hl)
 refine ⟨axF [] d, ?_, sp.1, by rw [sp.2]; simp [Ax.ex_nil]⟩
 refine Ev.congr (fun k => by unfold delta_Axis.f; rfl) (Ev.bind e (Ev.congr (fun k => by rw [if_pos rfl]) ?_))
 simpa using axis_l0 d hs.1 d.length 0 [] (by omega) (by simp)
def posK : List Ax.Un → Nat → Option Nat
 | [], _ => none
 | .a :: u, p => (posK u p).map (· + 1)
 | .k :: _, 0 => some 0
 | .k :: u, p + 1 => (posK u p).map (· + 1)
 | .c :: _, 0 => none
 | .c :: u, p + 1 => posK u p
theorem posK_a (u : List Ax.Un) (p : Nat) : ∀ n : Nat, posK (List.replicate n .a ++ u) p = (posK u p).map (· + n)
 | 0 => by simp
 | n + 1 => by
  rw [List.replicate_succ, List.cons_append, posK, posK_a u p n, Option.map_map]
  congr 1
theorem posK_k (u : List Ax.Un) : ∀ (n p : Nat), posK (List.replicate n .k ++ u) p = if p < n then some p else (posK u (p - n)).map (· + n)
 | 0, p => by simp
 | n + 1, 0 => by rw [List.replicate_succ, List.cons_append, posK, if_pos (by omega)]
 | n + 1, p + 1 => by
  rw [List.replicate_succ, List.cons_append, posK, posK_k u n p]
  by_cases c : p < n
  ·rw [if_pos c, if_pos (by omega)]; rfl
  ·rw [if_neg c, if_neg (by omega), Option.map_map, show p + 1 - (n + 1) = p - n by omega]
   congr 1
theorem posK_c (u : List Ax.Un) : ∀ (n p : Nat), posK (List.replicate n .c ++ u) p = if p < n then none else posK u (p - n)
 | 0, p => by simp
 | n + 1, 0 => by rw [List.replicate_succ, List.cons_append, posK, if_pos (by omega)]
 | n + 1, p + 1 => by
  rw [List.replicate_succ, List.cons_append, posK, posK_c u n p, show p + 1 - (n + 1) = p - n by omega]
  by_cases c : p < n
  ·rw [if_pos c, if_pos (by omega)]
  ·rw [if_neg c, if_neg (by omega)]
def placeO (t : Int) : Option Nat → Int
 | none => -1
 | some j => t + j
theorem place_pos : ∀ (l : List S121) (f t : Int) (p : Nat), Ax.Pos l → Ax.placeS l f t (f + p) = placeO t (posK (Ax.ex l) p)
 | [], f, t, p, _ => by rw [Ax.placeS, Ax.ex_nil, posK]; rfl
 | s :: l, f, t, p, h => by
  obtain ⟨hk, h1⟩ := h.head
  obtain ⟨n, hn⟩ : ∃ n : Nat, s.f1 = n := ⟨s.f1.toNat, by omega⟩
  rw [Ax.placeS, Ax.ex_cons, hn, Int.toNat_natCast]
  rcases hk with e | e | e
  ·rw [e, if_neg (by omega), if_pos rfl, Ax.un0 rfl, posK_k]
   by_cases c : p < n
   ·rw [if_pos (by omega), if_pos c, placeO]; omega
   ·rw [if_neg (by omega), if_neg c]
    have ih := place_pos l (f + n) (t + n) (p - n) h.tail
    rw [show f + (n : Int) + ((p - n : Nat) : Int) = f + p by omega] at ih
    rw [ih]
    cases posK (Ax.ex l) (p - n) with
    | none => rfl
    | some j => show t + (n : Int) + j = t + ((j + n : Nat) : Int); omega
  ·rw [e, if_pos rfl, Ax.un1 rfl, posK_a, place_pos l f (t + n) p h.tail]
   cases posK (Ax.ex l) p with
   | none => rfl
   | some j => show t + (n : Int) + j = t + ((j + n : Nat) : Int); omega
  ·rw [e, if_neg (by omega), if_neg (by omega), Ax.un2 rfl, posK_c]
   by_cases c : p < n
   ·rw [if_pos (by omega), if_pos c]; rfl
   ·rw [if_neg (by omega), if_neg c]
    have ih := place_pos l (f + n) t (p - n) h.tail
    rw [show f + (n : Int) + ((p - n : Nat) : Int) = f + p by omega] at ih
    exact ih
theorem run_pos : ∀ (u : List Un) (f : List S26) (p j : Nat), nold u = f.length → posK (u.map kd) p = some j → ∃ (h : p < f.length) (t : List S91), (run f u).1[j]? = some (app t f[p])
 | [], f, p, j, _, h => by simp [posK] at h
 | .add x :: u, f, p, j, hn, h => by
  rw [List.map_cons, kd, posK, Option.map_eq_some_iff] at h
  obtain ⟨i, hi, rfl⟩ := h
  obtain ⟨hp, t, e⟩ := run_pos u f p i hn hi
  exact ⟨hp, t, by rw [run]; simpa using e⟩
 | .keep t :: u, [], p, j, hn, h => by simp [nold] at hn
 | .cut :: u, [], p, j, hn, h => by simp [nold] at hn
 | .keep t :: u, x :: f, 0, j, hn, h => by
  rw [List.map_cons, kd, posK] at h
  injection h with h
  subst h
  exact ⟨by simp, t, by rw [run]; simp⟩
 | .keep t :: u, x :: f, p + 1, j, hn, h => by
  rw [List.map_cons, kd, posK, Option.map_eq_some_iff] at h
  obtain ⟨i, hi, rfl⟩ := h
  obtain ⟨hp, t', e⟩ := run_pos u f p i (by simpa [nold] using hn) hi
  exact ⟨by simpa using hp, t', by rw [run]; simpa using e⟩
 | .cut :: u, x :: f, 0, j, hn, h => by rw [List.map_cons, kd, posK] at h; cases h
 | .cut :: u, x :: f, p + 1, j, hn, h => by
  rw [List.map_cons, kd, posK] at h
  obtain ⟨hp, t', e⟩ := run_pos u f p j (by simpa [nold] using hn) h
  exact ⟨by simpa using hp, t', by rw [run]; simpa using e⟩
theorem axes_ev : Ev (fun k => chancerykeep1_axes.f k) true := ⟨100, fun _ hk => at_rounds chancerykeep1_axes.mono hk (by kernel_rfl : chancerykeep1_axes.f 100 = some true)⟩
def abc (n : Nat) : List S26 := (List.range n).map fun (i : Nat) => (⟨97 + (i : Int), 0, []⟩ : S26)
theorem abc_len (n : Nat) : (abc n).length = n := by simp [abc]
theorem abc_succ (n : Nat) : abc (n + 1) = abc n ++ [⟨97 + (n : Int), 0, []⟩] := by simp [abc, List.range_succ]
theorem abc_get {n i : Nat} (h : i < (abc n).length) : (abc n)[i] = ⟨97 + (i : Int), 0, []⟩ := by simp [abc]
theorem abc_ok {n : Nat} (hn : n ≤ 26) : POK (abc n) := pok_mem.2 (fun x hx => by
 simp only [abc, List.mem_map, List.mem_range] at hx
 obtain ⟨i, hi, rfl⟩ := hx
 exact ⟨.inr ⟨rfl, by unfold CharOK; simp only; omega⟩, va_nil false⟩)
theorem abc_lb (n : Nat) (hn : n ≤ 26) : LB 1073741824 (abc n) := ⟨by rw [abc_len]; omega, fun x hx => by
 simp only [abc, List.mem_map, List.mem_range] at hx
 obtain ⟨i, hi, rfl⟩ := hx
 simp⟩
theorem x_ok : NmOK (⟨#[120]⟩ : ByteArray) := by
 refine ⟨⟨by decide, by decide, fun i h0 h1 => ?_⟩, ⟨by decide, by decide, fun i h0 h1 => ?_⟩, by decide +kernel⟩
 ·have : i = 0 := by have : (⟨#[120]⟩ : ByteArray).size = 1 := rfl; omega
  subst this
  exact .inl (by decide)
 ·have : i = 0 := by have : (⟨#[120]⟩ : ByteArray).size = 1 := rfl; omega
  subst this
  decide
theorem bef_kd : ∀ u : List Un, Ax.bef (u.map kd) = nold u
 | [] => rfl
 | .add x :: u => by rw [List.map_cons, kd, Ax.bef_a, nold, bef_kd u]
 | .keep t :: u => by rw [List.map_cons, kd, Ax.bef_k, nold, bef_kd u]
 | .cut :: u => by rw [List.map_cons, kd, Ax.bef_c, nold, bef_kd u]
structure Chg (n : Nat) (raw : List Int) (o : List S95) (a : List S121) : Prop where
 ch : chancerykeep1_change.f (n : Int) raw (⟨#[120]⟩ : ByteArray) = some o
 ok : ChOK (⟨#[120]⟩ : ByteArray) n o
 apply : Ev (fun k => delta_Apply.f k (abc n) o) ((run (abc n) (units o)).1, 0)
 axis : Ev (fun k => delta_Axis.f k o) (a, 0)
 fn : Ax.Fn (-1) a
 ex : Ax.ex a = (units o).map kd
 bef : Ax.bef (Ax.ex a) = n
 small : (units o).length ≤ 80
 glen : (run (abc n) (units o)).1.length ≤ 80
theorem chg_ev (n : Nat) (raw : List Int) (hn : n ≤ 26) : ∃ o a, Chg n raw o a := by
 obtain ⟨o, he, hc⟩ := change_ev n raw x_ok (by omega)
 have hcn := hc.counts
 have hdok := hc.fo.dok (by omega)
 have hdb := hc.fo.db (n := 1073741824) (by omega) (by omega)
 have hds := dsm hdok.ok hdb (by omega)
 have hnew := new_units hdok.ok
 have hnl := nnew_le (units o)
 obtain ⟨a, ha, fa, ea⟩ := axis_ev o hds hdok (by omega)
 have hol : old o = ((abc n).length : Int) := by rw [old_units hdok.ok, hcn.1, abc_len]
 refine ⟨o, a, ever_of he, hc, apply_ev (abc n) o (abc_ok hn) (abc_lb n hn) hdok hdb hol (by omega), ha, fa, ea, by rw [ea, bef_kd, hcn.1], by omega, ?_⟩
 rw [run_len (units o) (abc n) (by rw [hcn.1, abc_len])]
 omega
section
variable {n : Nat} {raw : List Int} {o : List S95} {a : List S121}
theorem Chg.exl (h : Chg n raw o a) : (Ax.ex a).length ≤ 80 := by have := h.small; rw [h.ex, List.length_map]; omega
theorem Chg.check (h : Chg n raw o a) : Ev (fun k => axis_Check.f k a) 0 := ⟨321, fun k hk => Ax.check_ok h.fn (by have := h.exl; omega) (by have := h.exl; omega)⟩
theorem Chg.lens (h : Chg n raw o a) : ∃ m : Int, Ev (fun k => axis_lengths.f k a) ((n : Int), m) := by
 refine ⟨((Ax.aft (Ax.ex a) : Nat) : Int), 81, fun k hk => ?_⟩
 show axis_lengths.f k a = _
 rw [Ax.lengths_ok h.fn (by have := h.exl; omega) (by have := h.exl; omega), h.bef]
def Chg.pl (a : List S121) (i : Nat) : Int := Ax.placeS a 0 0 (i : Int)
theorem Chg.place (h : Chg n raw o a) {i : Nat} (hi : i < n) (hn : n ≤ 26) : Ev (fun k => axis_place.f k a (i : Int)) (Chg.pl a i) :=
 ⟨81, fun k hk => Ax.place_ok h.fn (by have := h.exl; omega) (by omega) (by omega) (by have := h.exl; omega)⟩
theorem Chg.pl_is (h : Chg n raw o a) (i : Nat) : Chg.pl a i = placeO 0 (posK ((units o).map kd) i) := by
 have := place_pos a 0 0 i (Ax.Fn.pos h.fn)
 rw [Int.zero_add, h.ex] at this
 exact this
theorem Chg.one (h : Chg n raw o a) {i : Nat} (hi : i < n) (hn : n ≤ 26) : Ev (fun k => axis_Apply.f k a [(i : Int)]) ([Chg.pl a i], 0) := by
 obtain ⟨m, hm⟩ := h.lens
 refine Ev.congr (fun k => by unfold axis_Apply.f; rfl) (Ev.bind h.check (Ev.congr (fun k => by rw [if_pos rfl]) (Ev.bind hm ?_)))
 refine Ev.step (f := fun k => (axis_place.f k a (i : Int)).bind fun t => axis_Apply.l0 k a (n : Int) ([] ++ [t]) [(i : Int)] 1 1) (fun k => ?_) (Ev.bind (h.place hi hn) (Ev.step (f := fun _ => some ([Chg.pl a i], 0)) (fun k => ?_) (Ev.now _)))
 ·simp only [List.length_singleton, axis_Apply.l0, Int.natCast_one]
  rw [if_pos (by omega), if_pos (by omega), if_pos (by omega), show rd [(i : Int)] 0 = (i : Int) from rfl, if_neg (by omega), if_neg (by omega)]
  rw [show wrap64 (0 + 1) = 1 from wrap_up (by omega) (by omega)]
  refine congrArg _ (funext fun t => ?_)
  rw [if_pos (by simp)]
 ·simp only [axis_Apply.l0]
  rw [if_neg (by omega)]
  rfl
theorem Chg.at_ (h : Chg n raw o a) {i : Nat} (hi : i < n) : Chg.pl a i < ((run (abc n) (units o)).1.length : Int) ∧ ∀ j : Nat, Chg.pl a i = (j : Int) → (rd_T26 (run (abc n) (units o)).1 (j : Int)).f0 = 97 + (i : Int) := by
 have hc := h.ok.counts
 rw [h.pl_is]
 cases hp : posK ((units o).map kd) i with
 | none => exact ⟨by show (-1 : Int) < _; omega, fun j hj => absurd (show (-1 : Int) = (j : Int) from hj) (by omega)⟩
 | some q =>
  obtain ⟨hq, t, e⟩ := run_pos (units o) (abc n) i q (by rw [hc.1, abc_len]) hp
  obtain ⟨hlt, e2⟩ := List.getElem?_eq_some_iff.1 e
  refine ⟨by show (0 : Int) + q < _; omega, fun j hj => ?_⟩
  obtain rfl : j = q := by have : (0 : Int) + (q : Int) = (j : Int) := hj; omega
  simp only [rd_T26, Int.toNat_natCast, List.getD_eq_getElem?_getD, e, Option.getD_some, app, abc_get]
end
theorem abc_rd {n i : Nat} (h : i < n) : (rd_T26 (abc n) (i : Int)).f0 = 97 + (i : Int) := by
 simp [rd_T26, List.getD_eq_getElem?_getD, abc, List.getElem?_range h]
theorem agrees_l2 (x5 x8 : List S26) (x10 : List S121) (x12 x56 x57 P : Int) (r : Bool) (h0 : 0 ≤ x12) (h1 : x12 < (x5.length : Int)) (hl : x8.length ≤ 80) (hP : P < (x8.length : Int)) (hm : ∀ j : Nat, P = (j : Int) → (rd_T26 x8 (j : Int)).f0 = (rd_T26 x5 x12).f0)
  (hr : Ev (fun k => chancerykeep1_DeltaAxisAgrees.l1 k x5 x8 x10 x56 (wrap64 (x57 + 1))) r) (m : Nat) : ∀ (t : Nat), t + m = x8.length → ∀ b : Bool, b = decide (0 ≤ P ∧ P < (t : Int)) →
  Ev (fun k => chancerykeep1_DeltaAxisAgrees.l2 k x5 x8 x10 x12 [P] b x56 x57 (x8.length : Int) (t : Int)) r := by
 induction m with
 | zero =>
  intro t ht b hb
  refine Ev.step (fun k => ?_) hr
  simp only [chancerykeep1_DeltaAxisAgrees.l2]
  rw [if_neg (by omega), if_pos (by simp)]
  have hb2 : b = decide (rd [P] 0 ≥ 0) := by
   rw [hb, show rd [P] 0 = P from rfl]
   exact decide_eq_decide.2 ⟨fun h => h.1, fun h => ⟨h, by omega⟩⟩
  rw [hb2, if_neg (by simp)]
 | succ m ih =>
  intro t ht b hb
  cases hbb : b with
  | true =>
   rw [hbb] at hb
   have hp := of_decide_eq_true hb.symm
   refine Ev.step (fun k => ?_) (ih (t + 1) (by omega) true (by symm; apply decide_eq_true; omega))
   simp only [chancerykeep1_DeltaAxisAgrees.l2]
   rw [if_pos (by omega), if_pos trivial, wrap_up (by omega) (by omega)]
   rfl
  | false =>
   rw [hbb] at hb
   have hp := of_decide_eq_false hb.symm
   by_cases c : (rd_T26 x8 (t : Int)).f0 = (rd_T26 x5 x12).f0
   ·refine Ev.step (fun k => ?_) (ih (t + 1) (by omega) ((t : Int) == rd [P] 0) (by
     rw [show rd [P] 0 = P from rfl, Bool.beq_eq_decide_eq]
     exact decide_eq_decide.2 ⟨fun h => by omega, fun h => by omega⟩))
    simp only [chancerykeep1_DeltaAxisAgrees.l2]
    rw [if_pos (by omega), if_neg Bool.false_ne_true, if_pos (by omega), if_pos (by omega), if_pos h0, if_pos h1, if_pos c, if_pos (by simp), wrap_up (by omega) (by omega)]
    rfl
   ·refine Ev.step (fun k => ?_) (ih (t + 1) (by omega) false (by
     symm
     apply decide_eq_false
     intro h
     have : P = (t : Int) := by omega
     exact c (hm t this)))
    simp only [chancerykeep1_DeltaAxisAgrees.l2]
    rw [if_pos (by omega), if_neg Bool.false_ne_true, if_pos (by omega), if_pos (by omega), if_pos h0, if_pos h1, if_neg c, wrap_up (by omega) (by omega)]
    rfl
theorem agrees_l1 {n : Nat} {raw : List Int} {o : List S95} {a : List S121} (h : Chg n raw o a) (hn : n ≤ 26) (m : Nat) : ∀ i : Nat, i + m = n → Ev (fun k => chancerykeep1_DeltaAxisAgrees.l1 k (abc n) (run (abc n) (units o)).1 a (n : Int) (i : Int)) true := by
 induction m with
 | zero =>
  intro i hi
  refine Ev.step (f := fun _ => some true) (fun k => ?_) (Ev.now _)
  simp only [chancerykeep1_DeltaAxisAgrees.l1]
  rw [if_neg (by omega)]
 | succ m ih =>
  intro i hi
  have hi' : i < n := by omega
  obtain ⟨a1, a2⟩ := h.at_ hi'
  have hg := h.glen
  have e := agrees_l2 (abc n) (run (abc n) (units o)).1 a (i : Int) (n : Int) (i : Int) (Chg.pl a i) true (by omega) (by rw [abc_len]; omega) hg a1 (fun j hj => by rw [a2 j hj, abc_rd hi'])
   (Ev.congr (fun k => by rw [wrap_up (by omega) (by omega)]; rfl) (ih (i + 1) (by omega))) _ 0 (Nat.zero_add _) false (by symm; apply decide_eq_false; omega)
  obtain ⟨G, hG⟩ : ∃ G, G = (run (abc n) (units o)).1 := ⟨_, rfl⟩
  rw [← hG] at a1 a2 hg e ⊢
  refine Ev.step (f := fun k => (axis_Apply.f k a [(i : Int)]).bind fun r => if r.2 = 0 then (if (r.1.length : Int) = 1 then (if 0 < (r.1.length : Int) then chancerykeep1_DeltaAxisAgrees.j4 k (abc n) G a (i : Int) r.1 (n : Int) (i : Int) (decide (rd r.1 0 ≥ (G.length : Int))) else none) else chancerykeep1_DeltaAxisAgrees.j4 k (abc n) G a (i : Int) r.1 (n : Int) (i : Int) true) else chancerykeep1_DeltaAxisAgrees.j4 k (abc n) G a (i : Int) r.1 (n : Int) (i : Int) true) (fun k => ?_)
   (Ev.bind (h.one hi' hn) (Ev.congr (f := fun k => chancerykeep1_DeltaAxisAgrees.j4 k (abc n) G a (i : Int) [Chg.pl a i] (n : Int) (i : Int) false) (fun k => ?_) (Ev.step (fun k => ?_) e)))
  ·simp only [chancerykeep1_DeltaAxisAgrees.l1]
   rw [if_pos (by omega)]
  ·simp only [List.length_singleton]
   rw [if_pos trivial, if_pos (show ((1 : Nat) : Int) = 1 from rfl), if_pos (by omega), decide_eq_false (show ¬ rd [Chg.pl a i] 0 ≥ (G.length : Int) from by show ¬ Chg.pl a i ≥ _; omega)]
  ·simp only [chancerykeep1_DeltaAxisAgrees.j4]
   rw [if_neg Bool.false_ne_true]
   rfl
theorem agrees_l0 (raw : List Int) (n : Nat) (hn : n ≤ 26) (m : Nat) : ∀ i : Nat, i + m = n → Ev (fun k => chancerykeep1_DeltaAxisAgrees.l0 k (n : Int) raw (abc i) (n : Int) (i : Int)) true := by
 induction m with
 | zero =>
  intro i hi
  obtain rfl : i = n := by omega
  obtain ⟨o, a, h⟩ := chg_ev i raw hn
  refine Ev.step (f := fun k => (delta_Apply.f k (abc i) o).bind fun r => (delta_Axis.f k o).bind fun q => if r.2 = 0 then chancerykeep1_DeltaAxisAgrees.j2 k (i : Int) (abc i) r.1 q.1 (q.2 != 0) else chancerykeep1_DeltaAxisAgrees.j2 k (i : Int) (abc i) r.1 q.1 true) (fun k => ?_)
   (Ev.bind h.apply (Ev.bind h.axis (Ev.congr (f := fun k => chancerykeep1_DeltaAxisAgrees.j2 k (i : Int) (abc i) (run (abc i) (units o)).1 a false) (fun k => ?_) (Ev.step (fun k => ?_) (agrees_l1 h hn i 0 (by omega))))))
  ·simp only [chancerykeep1_DeltaAxisAgrees.l0]
   rw [if_neg (by omega), h.ch, Option.bind_some]
  ·rw [if_pos rfl]
   rfl
  ·simp only [chancerykeep1_DeltaAxisAgrees.j2]
   rw [if_neg Bool.false_ne_true]
   rfl
 | succ m ih =>
  intro i hi
  refine Ev.step (fun k => ?_) (ih (i + 1) (by omega))
  simp only [chancerykeep1_DeltaAxisAgrees.l0]
  rw [if_pos (by omega), if_pos (by rw [abc_len]; omega), abc_succ, wrap_up (by omega) (by omega), show wrap64 (97 + (i : Int)) = 97 + (i : Int) from w64 (by omega) (by omega)]
  rfl
theorem agrees_ev (a0 : Int) (l1 : List Int) : Ev (fun k => chancerykeep1_DeltaAxisAgrees.f k a0 l1) true := by
 obtain ⟨r, hr, h0, h1⟩ := Ax.within_ok a0 1 26 (by omega) (by omega) (by omega)
 obtain ⟨n, rfl⟩ : ∃ n : Nat, r = n := ⟨r.toNat, by omega⟩
 refine Ev.congr (fun k => by unfold chancerykeep1_DeltaAxisAgrees.f chancerykeep1_deltas.f; rw [Option.bind_some, if_pos rfl]) (Ev.bind axes_ev (Ev.step (fun k => ?_) (agrees_l0 l1 n (by omega) n 0 (by omega))))
 simp only [chancerykeep1_DeltaAxisAgrees.j0, Bool.not_true]
 rw [if_neg Bool.false_ne_true, hr, Option.bind_some]
 rfl
end Go.Proofs.Ytlcodfjlbhjkbaa.PDelta
end
section
namespace Go.Proofs.Ytlcodfjlbhjkbaa.Pure
open Go.RowKit Go.Proofs.Ytlcodfjlbhjkbaa.PDelta Go.Proofs.YtlcodfjlbhjkbaaW.PrintWords Go.Proofs.YtlcodfjlbhjkbaaW.PrintLast
theorem DeltaAxisAgrees : chancerykeep1_DeltaAxisAgrees.Pure := fun a0 l1 _ _ _ _ => (agrees_ev a0 l1).rounds
end Go.Proofs.Ytlcodfjlbhjkbaa.Pure
end
section
namespace Go.Proofs.Ytlcodfjlbhjkbaa.deltaAxisAgrees
open Go.ChangeShapes Go.WideShapes Go.ChangeAt Go.RowKit
open Go.ChangeMaps (open_string shut_string)
theorem own : ownKnob Try.prog.godebug = none := by kernel_rfl
theorem laidOut : laidOutB Try.prog = true := by kernel_rfl
def IsRow (k : IntKind) (w : World) (a : Option Addr) (len cap : Nat) (zs : List Int) : Prop :=
 (a = none ∧ len = 0 ∧ cap = 0 ∧ zs = []) ∨
 ∃ x, a = some x ∧ len ≤ cap ∧ cap ≤ maxLen ∧ zs.length = cap ∧ (∀ i, i < zs.length → w.cell? (x.add i) = some (.int k (zs.getD i 0))) ∧ ∀ n ∈ zs, (Lit.int k n).wf = true
set_option maxRecDepth 100000 in
theorem lifted (os : Os) (started : os.Started) (H : Type) (enc : TypeId × Value → H) :
  ReturnsInHanded {} Try.checked os 7 .any (Rows.deltaAxisAgreesSpec.pre6 enc Try.prog Try.f7 Rows.deltaAxisAgreesRow.domain false) (Rows.deltaAxisAgreesSpec.post enc Try.prog Try.f7 false true false false) := by
 refine returnsInHanded_of_change_sized (C := Try.checked) own started (by kernel_rfl) Try.func7
  (ChangeSpec.witness6 (enc := enc) (C := Try.checked) false ⟨#[], #[.int .i64 0, .slice none 0 0], []⟩ 8 (by kernel_rfl) (by kernel_rfl) (by kernel_rfl) (by kernel_rfl)) ?_
 intro W base args ds gs before hval0 hW hcnd hsz0 _
 have hsz : (DataW.weightsEach Try.prog (Try.f7.params.toList ++ Rows.deltaAxisAgreesSpec.plain.varTypes Try.prog) (ds ++ gs)).all (· ≤ reachBytes) = true := hsz0
 have hval : ∀ (j : Nat) t v, Try.f7.params[j]? = some t → args[j]? = some v → Value.okWide Try.prog W .any base t v := hval0
 have hW' := hW
 obtain ⟨p, q, hA0, hV, rfl, hfz, hnd⟩ := hW
 have hA : DataW.TrodAll enc Try.prog W 0 (fun _ => true) true Try.f7.params.toList args.toList ds p := hA0
 rw [Try.params7] at hA hval hsz
 obtain ⟨v0, vs0, d0, ds0, p0, q0, hargs, rfl, rfl, h0, r0⟩ := trodAll_cons hA
 obtain ⟨v1, vs1, d1, ds1, p1, q1, rfl, rfl, rfl, h1, r1⟩ := trodAll_cons r0
 obtain ⟨rfl, rfl, rfl⟩ := trodAll_nil r1
 obtain rfl : args = #[v0, v1] := by cases args; simp_all
 obtain ⟨rfl, rfl⟩ := trodVars_none hV
 obtain ⟨a0, rfl, rfl, rfl, w0⟩ := open_int Try.underlying3 (hval 0 3 v0 rfl rfl) h0
 obtain ⟨a1, len1, cap1, rfl⟩ := okWide_slice Try.underlying35 (hval 1 35 v1 rfl rfl)
 have k1 := h1
 have lt1 : ∀ x ∈ p1, x.block < W.heap.size := by obtain ⟨m, hm⟩ := k1; exact DataW.trod_lt m _ _ _ hm
 obtain ⟨z1, w1⟩ : ∃ zs, IsRow .i64 W a1 len1 cap1 zs := by
  obtain ⟨fuel, hf⟩ := h1
  rcases open_ints Try.underlying35 Try.underlying3 (by kernel_rfl) hf with ⟨hcs, _⟩ | ⟨x, l, c, zs, hcs, _, hl, hm, hz, _, hcell, hwz⟩
  ·simp [Value.cells] at hcs
   obtain ⟨rfl, rfl, rfl⟩ := hcs
   exact ⟨[], .inl ⟨rfl, rfl, rfl, rfl⟩⟩
  ·simp [Value.cells] at hcs
   obtain ⟨rfl, rfl, rfl⟩ := hcs
   exact ⟨zs, .inr ⟨_, rfl, hl, hm, by simpa using hz, hcell, hwz⟩⟩
 have y1 : len1 * 8 ≤ 140737488351232 := YtlcodfjlbhjkbaaW.PrintWords.sized_ints hsz (j := 1) (t := 35) rfl rfl Try.underlying35 Try.underlying3 (by kernel_rfl) (by kernel_rfl) h1
 clear hA0 hval0 hsz0 hsz
 refine (PDelta.chancerykeep1_DeltaAxisAgrees.walk Pure.DeltaAxisAgrees a0 a1 len1 cap1 z1 W w0 w1 y1).mono fun e W' ⟨he, bel⟩ => ?_
 subst he
 exact ⟨_, rfl, _, _, _, [], _, [], hW', trodAll_mk1 (shut_bool Try.underlying4 _), (trodAll_cons_mk (shut_int Try.underlying3 w0) (trodAll_cons_mk (Below.trod laidOut (by kernel_rfl) (of_decide_eq_true (by kernel_rfl)) k1 bel lt1) trodAll_mk0)), rfl, bel.frame _, fun h => by cases h⟩
theorem over : Rows.deltaAxisAgreesRow.holds Try.pinned (OpenSpec.ofChange Rows.deltaAxisAgreesSpec) :=
 OpenClaim.holds_of_wide 7 Try.f7 rfl rfl rfl rfl rfl rfl rfl ⟨rfl, rfl, rfl, rfl, rfl⟩ rfl rfl rfl rfl rfl (by kernel_rfl) Try.func7 (by kernel_rfl)
  (of_decide_eq_true (by kernel_rfl)) (by unfold Func.isWrapper; first | (rw [if_pos (by decide +kernel)]; kernel_rfl) | (rw [if_neg (by decide +kernel)]; exact ⟨rfl, rfl⟩))
  (fun os started H enc _ => lifted os started H enc)
theorem proved : Rows.DeltaAxisAgreesSaid := over
#print axioms proved
end Go.Proofs.Ytlcodfjlbhjkbaa.deltaAxisAgrees
namespace Go.Proofs.Ytlcodfjlbhjkbaa
theorem deltaAxisAgrees_holds : Rows.DeltaAxisAgreesSaid := deltaAxisAgrees.proved
end Go.Proofs.Ytlcodfjlbhjkbaa
end

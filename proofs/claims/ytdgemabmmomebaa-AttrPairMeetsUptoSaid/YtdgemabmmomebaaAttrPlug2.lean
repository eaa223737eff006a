/- The contract of attr.both: it calls what it is handed once for each name, in order; what comes of it is a fold. -/
import Derived.Test.YtdgemabmmomebaaAttrPlug1
import Derived.StillTailTactics
namespace Go.Proofs.Ytdgemabmmomebaa.PAttr
open Go.RowKit Go.Proofs.YtdgemabmmomebaaW.PrintWords Go.Proofs.YtdgemabmmomebaaW.PrintLast Go.Proofs.YtdgemabmmomebaaW.PrintMore
set_option linter.unusedVariables false
set_option linter.unusedSimpArgs false

abbrev ltS (x y : S38) : Bool := Op.bytesLess x.f0.toList y.f0.toList
/-- What both does with a list of its own: the fold of V over the two sorted lists. -/
def bothL (V : List S38 → S38 → S38 → List S38) (s : List S38) : List S38 → List S38 → List S38
  | [], [] => s
  | x :: a, [] => bothL V (V s x z38) a []
  | [], y :: b => bothL V (V s z38 y) [] b
  | x :: a, y :: b => if ltS x y = true then bothL V (V s x z38) a (y :: b) else if ltS y x = true then bothL V (V s z38 y) (x :: a) b else bothL V (V s x y) a b
termination_by a b => a.length + b.length

theorem drop_cons (l : List S38) (i : Nat) (h : i < l.length) : l.drop i = rd_T38 l i :: l.drop (i + 1) := by
  rw [List.drop_eq_getElem_cons h]
  simp [rd_T38, List.getD_eq_getElem?_getD, List.getElem?_eq_getElem h]

/-- The relation of both's loop, i of a and j of b done. -/
structure BothAt (V : List S38 → S38 → S38 → List S38) (w0 : World) (B : Nat) (a b r : List S38) (i j : Nat) (o : List S38) (w : World) : Prop where
  ha : i ≤ a.length
  hb : j ≤ b.length
  out : OutIs w0 B o w
  eq : bothL V o (a.drop i) (b.drop j) = r
  le : (o.length + (a.length - i) + (b.length - j)) * 32 ≤ 140737488355328
section
variable {V : List S38 → S38 → S38 → List S38} {w0 w w' : World} {B : Nat} {a b r o : List S38} {i j : Nat}
theorem BothAt.one (h : BothAt V w0 B a b r i j o w) (h1 : i < a.length ∨ j < b.length) : (o.length + 1) * 32 ≤ 140737488355328 := by
  have := h.le
  have := h.ha
  have := h.hb
  omega
theorem BothAt.left (hV : ∀ out x y, (V out x y).length ≤ out.length + 1) (h : BothAt V w0 B a b r i j o w) (h1 : i < a.length) (h2 : j = b.length ∨ j < b.length ∧ ltS (rd_T38 a i) (rd_T38 b j) = true) (hO : OutIs w0 B (V o (rd_T38 a i) nil38) w') :
    BothAt V w0 B a b r (i + 1) j (V o (rd_T38 a i) nil38) w' := by
  refine ⟨h1, h.hb, hO, ?_, ?_⟩
  · rw [← h.eq, drop_cons a i h1]
    rcases h2 with h2 | ⟨h2, h3⟩
    · rw [List.drop_eq_nil_of_le (by omega : b.length ≤ j)]
      conv => rhs; rw [bothL.eq_def]
      rfl
    · rw [drop_cons b j h2]
      conv => rhs; rw [bothL]
      rw [if_pos h3]
      rfl
  · have := hV o (rd_T38 a i) nil38
    have := h.le
    omega
theorem BothAt.right (hV : ∀ out x y, (V out x y).length ≤ out.length + 1) (h : BothAt V w0 B a b r i j o w) (h1 : j < b.length) (h2 : i = a.length ∨ i < a.length ∧ ltS (rd_T38 a i) (rd_T38 b j) = false ∧ ltS (rd_T38 b j) (rd_T38 a i) = true) (hO : OutIs w0 B (V o nil38 (rd_T38 b j)) w') :
    BothAt V w0 B a b r i (j + 1) (V o nil38 (rd_T38 b j)) w' := by
  refine ⟨h.ha, h1, hO, ?_, ?_⟩
  · rw [← h.eq, drop_cons b j h1]
    rcases h2 with h2 | ⟨h2, h3, h4⟩
    · rw [List.drop_eq_nil_of_le (by omega : a.length ≤ i)]
      conv => rhs; rw [bothL.eq_def]
      rfl
    · rw [drop_cons a i h2]
      conv => rhs; rw [bothL]
      rw [if_neg (by rw [h3]; decide), if_pos h4]
      rfl
  · have := hV o nil38 (rd_T38 b j)
    have := h.le
    omega
theorem BothAt.mid (hV : ∀ out x y, (V out x y).length ≤ out.length + 1) (h : BothAt V w0 B a b r i j o w) (h1 : i < a.length) (h2 : j < b.length) (h3 : ltS (rd_T38 a i) (rd_T38 b j) = false) (h4 : ltS (rd_T38 b j) (rd_T38 a i) = false) (hO : OutIs w0 B (V o (rd_T38 a i) (rd_T38 b j)) w') :
    BothAt V w0 B a b r (i + 1) (j + 1) (V o (rd_T38 a i) (rd_T38 b j)) w' := by
  refine ⟨h1, h2, hO, ?_, ?_⟩
  · rw [← h.eq, drop_cons a i h1, drop_cons b j h2]
    conv => rhs; rw [bothL]
    rw [if_neg (by rw [h3]; decide), if_neg (by rw [h4]; decide)]
  · have := hV o (rd_T38 a i) (rd_T38 b j)
    have := h.le
    omega
theorem BothAt.done (h : BothAt V w0 B a b r i j o w) (h1 : ¬ i < a.length) (h2 : ¬ j < b.length) : OutIs w0 B r w := by
  have e := h.eq
  rw [List.drop_eq_nil_of_le (by omega), List.drop_eq_nil_of_le (by omega), bothL] at e
  rw [← e]
  exact h.out
end

set_option maxRecDepth 100000 in
set_option maxHeartbeats 8000000 in
theorem both_calls (g : Nat) (hent : ∀ (args : Array Value) (w : World), (callFunc g args).run Try.prog w = .ok (.enter g args) w) (V : List S38 → S38 → S38 → List S38)
    (hcl : ∀ (w0 : World) (B : Nat) (out : List S38) (x y : S38) (w : World), w0.heap.size ≤ B → OutIs w0 B out w → (out.length + 1) * 32 ≤ 140737488355328 →
      Calls Try.prog g #[.agg #[.string x.f0, .string x.f1], .agg #[.string y.f0, .string y.f1], .pointer (some ⟨B, 0, none⟩)] w fun e w' => e = .returned (.tuple #[]) ∧ OutIs w0 B (V out x y) w')
    (hV : ∀ out x y, (V out x y).length ≤ out.length + 1)
    (w0 : World) (A0 : Option Addr) (c0 : Nat) (a : List S38) (A1 : Option Addr) (c1 : Nat) (b : List S38) (B : Nat) (w : World)
    (hr0 : Kd.C k38 w0 A0 a.length a) (hr1 : Kd.C k38 w0 A1 b.length b) (h0 : w0.heap.size ≤ B) (h : OutIs w0 B [] w) (hl : (a.length + b.length) * 32 ≤ 140737488355328) :
    Calls Try.prog 103 #[.slice A0 a.length c0, .slice A1 b.length c1, .func (.func g) #[] #[.pointer (some ⟨B, 0, none⟩)]] w fun e w' => e = .returned (.tuple #[]) ∧ OutIs w0 B (bothL V [] a b) w' := by
  have hu38 := Try.underlying38
  obtain ⟨r, hr⟩ : ∃ r, r = bothL V [] a b := ⟨_, rfl⟩
  rw [← hr]
  have hs : Aside0 (BothAt V w0 B a b r 0 0 [] w) := ⟨⟨Nat.zero_le _, Nat.zero_le _, h, by simpa using hr.symm, by simpa using hl⟩⟩
  have hla : a.length ≤ 4398046511104 := by omega
  have hlb : b.length ≤ 4398046511104 := by omega
  have HR0 := Aside0.mk hr0
  have HR1 := Aside0.mk hr1
  have H0 := Aside0.mk h0
  have HCL := Aside0.mk hcl
  have HVV := Aside0.mk hV
  clear hr0 hr1 hr h hl h0 hcl hV
  go_enter Try.func103, Try.ntmps103
  go_wp2
  go_loopg [6, 7] (a.length + b.length) (fun m v6 v7 wr => ∃ (i j : Nat) (o : List S38), v6 = .int .i64 i ∧ v7 = .int .i64 j ∧ Aside0 (BothAt V w0 B a b r i j o wr) ∧ Aside0 (m = (a.length - i) + (b.length - j)))
  case atStart => exact ⟨0, 0, [], rfl, rfl, hs, ⟨by simp⟩⟩
  case round =>
    clear hs
    obtain ⟨i, j, o, rfl, rfl, HS, HM⟩ := hrel
    obtain ⟨v, hv, hR, hbel⟩ := HS.out.out
    have HB := Aside0.mk hbel
    clear hv hR hbel
    have hia := HS.out.ha
    have hjb := HS.out.hb
    by_cases c1 : i < a.length
    · have f1 : decide ((i : Int) < (a.length : Int)) = true := decide_eq_true (by omega)
      have f1' : decide (i < a.length) = true := decide_eq_true c1
      have f3 : ((i : Int) == (a.length : Int)) = false := beq_eq_false_iff_ne.mpr (by omega)
      have f3' : (i == a.length) = false := beq_eq_false_iff_ne.mpr (by omega)
      obtain ⟨ad0, e0, hx0, hx1⟩ := at_T38 HR0.out (i : Int) (by omega) (by omega)
      cases e0
      replace hx0 := (HB.out.cell (World.block_lt_of_cell? w0 _ hx0)).trans hx0
      replace hx1 := (HB.out.cell (World.block_lt_of_cell? w0 _ hx1)).trans hx1
      simp only [Int.toNat_natCast] at hx0 hx1
      by_cases c2 : j < b.length
      · have f2 : decide ((j : Int) < (b.length : Int)) = true := decide_eq_true (by omega)
        have f2' : decide (j < b.length) = true := decide_eq_true c2
        have f4 : ((j : Int) == (b.length : Int)) = false := beq_eq_false_iff_ne.mpr (by omega)
        have f4' : (j == b.length) = false := beq_eq_false_iff_ne.mpr (by omega)
        obtain ⟨ad1, e1, hy0, hy1⟩ := at_T38 HR1.out (j : Int) (by omega) (by omega)
        cases e1
        replace hy0 := (HB.out.cell (World.block_lt_of_cell? w0 _ hy0)).trans hy0
        replace hy1 := (HB.out.cell (World.block_lt_of_cell? w0 _ hy1)).trans hy1
        simp only [Int.toNat_natCast] at hy0 hy1
        cases l1 : ltS (rd_T38 a i) (rd_T38 b j) with
        | true =>
          go_wp2
          go_quiet (fail)
          go_wp2_with (fail)
          refine (HCL.out w0 B o (rd_T38 a i) (nil38) _ H0.out (HS.out.out.below (pw_below_drewN (Below.refl _ _) _)) (HS.out.one (by omega))).mono ?_
          rintro e w' ⟨rfl, hO'⟩
          have HS' := Aside0.mk (BothAt.left HVV.out HS.out c1 (.inr ⟨c2, l1⟩) hO')
          have hm : (a.length - (i + 1)) + (b.length - j) < gk := by have := HM.out; omega
          clear hO' HS HB
          go_wp2
          go_roundg ((a.length - (i + 1)) + (b.length - j))
          case measure => exact hm
          case rel => exact ⟨(i + 1), j, _, by first | rfl | go_num, by first | rfl | go_num, HS', ⟨rfl⟩⟩
        | false =>
          cases l2 : ltS (rd_T38 b j) (rd_T38 a i) with
          | true =>
            go_wp2
            go_quiet (fail)
            go_wp2
            go_quiet (fail)
            go_wp2_with (fail)
            refine (HCL.out w0 B o (nil38) (rd_T38 b j) _ H0.out (HS.out.out.below (pw_below_drewN (Below.refl _ _) _)) (HS.out.one (by omega))).mono ?_
            rintro e w' ⟨rfl, hO'⟩
            have HS' := Aside0.mk (BothAt.right HVV.out HS.out c2 (.inr ⟨c1, l1, l2⟩) hO')
            have hm : (a.length - i) + (b.length - (j + 1)) < gk := by have := HM.out; omega
            clear hO' HS HB
            go_wp2
            go_roundg ((a.length - i) + (b.length - (j + 1)))
            case measure => exact hm
            case rel => exact ⟨i, (j + 1), _, by first | rfl | go_num, by first | rfl | go_num, HS', ⟨rfl⟩⟩
          | false =>
            go_wp2
            go_quiet (fail)
            go_wp2
            go_quiet (fail)
            go_wp2
            refine wp_region_still_tail 9 (by kernel_rfl) (by kernel_rfl) ?_
            simp only [List.take_succ_cons, List.take_zero, List.drop_succ_cons, List.drop_zero]
            change wpStill _ _ (World.drew _) (fun a' => wpList _ _ _ _ a' (World.drew _)) _ _
            repeat still_step
            refine wpStill_nil ?_
            go_wp2_with (fail)
            refine (HCL.out w0 B o (rd_T38 a i) (rd_T38 b j) _ H0.out (HS.out.out.below (pw_below_drewN (Below.refl _ _) _)) (HS.out.one (by omega))).mono ?_
            rintro e w' ⟨rfl, hO'⟩
            have HS' := Aside0.mk (BothAt.mid HVV.out HS.out c1 c2 l1 l2 hO')
            have hm : (a.length - (i + 1)) + (b.length - (j + 1)) < gk := by have := HM.out; omega
            clear hO' HS HB
            go_wp2
            go_roundg ((a.length - (i + 1)) + (b.length - (j + 1)))
            case measure => exact hm
            case rel => exact ⟨(i + 1), (j + 1), _, by first | rfl | go_num, by first | rfl | go_num, HS', ⟨rfl⟩⟩
      · obtain rfl : j = b.length := by omega
        have f4 : ((b.length : Int) == (b.length : Int)) = true := beq_iff_eq.mpr rfl
        have f4' : (b.length == b.length) = true := beq_iff_eq.mpr rfl
        go_wp2
        go_quiet (fail)
        go_wp2_with (fail)
        refine (HCL.out w0 B o (rd_T38 a i) (nil38) _ H0.out (HS.out.out.below (pw_below_drewN (Below.refl _ _) _)) (HS.out.one (by omega))).mono ?_
        rintro e w' ⟨rfl, hO'⟩
        have HS' := Aside0.mk (BothAt.left HVV.out HS.out c1 (.inl rfl) hO')
        have hm : (a.length - (i + 1)) + (b.length - b.length) < gk := by have := HM.out; omega
        clear hO' HS HB
        go_wp2
        go_roundg ((a.length - (i + 1)) + (b.length - b.length))
        case measure => exact hm
        case rel => exact ⟨(i + 1), b.length, _, by first | rfl | go_num, by first | rfl | go_num, HS', ⟨rfl⟩⟩
    · have f1 : decide ((i : Int) < (a.length : Int)) = false := decide_eq_false (by omega)
      have f1' : decide (i < a.length) = false := decide_eq_false c1
      obtain rfl : i = a.length := by omega
      have f3 : ((a.length : Int) == (a.length : Int)) = true := beq_iff_eq.mpr rfl
      have f3' : (a.length == a.length) = true := beq_iff_eq.mpr rfl
      by_cases c2 : j < b.length
      · have f2 : decide ((j : Int) < (b.length : Int)) = true := decide_eq_true (by omega)
        have f2' : decide (j < b.length) = true := decide_eq_true c2
        have f4 : ((j : Int) == (b.length : Int)) = false := beq_eq_false_iff_ne.mpr (by omega)
        have f4' : (j == b.length) = false := beq_eq_false_iff_ne.mpr (by omega)
        obtain ⟨ad1, e1, hy0, hy1⟩ := at_T38 HR1.out (j : Int) (by omega) (by omega)
        cases e1
        replace hy0 := (HB.out.cell (World.block_lt_of_cell? w0 _ hy0)).trans hy0
        replace hy1 := (HB.out.cell (World.block_lt_of_cell? w0 _ hy1)).trans hy1
        simp only [Int.toNat_natCast] at hy0 hy1
        go_wp2
        go_quiet (fail)
        go_wp2
        go_quiet (fail)
        go_wp2_with (fail)
        refine (HCL.out w0 B o (nil38) (rd_T38 b j) _ H0.out (HS.out.out.below (pw_below_drewN (Below.refl _ _) _)) (HS.out.one (by omega))).mono ?_
        rintro e w' ⟨rfl, hO'⟩
        have HS' := Aside0.mk (BothAt.right HVV.out HS.out c2 (.inl rfl) hO')
        have hm : (a.length - a.length) + (b.length - (j + 1)) < gk := by have := HM.out; omega
        clear hO' HS HB
        go_wp2
        go_roundg ((a.length - a.length) + (b.length - (j + 1)))
        case measure => exact hm
        case rel => exact ⟨a.length, (j + 1), _, by first | rfl | go_num, by first | rfl | go_num, HS', ⟨rfl⟩⟩
      · have f2 : decide ((j : Int) < (b.length : Int)) = false := decide_eq_false (by omega)
        have f2' : decide (j < b.length) = false := decide_eq_false c2
        have HD := Aside0.mk (HS.out.done c1 c2)
        go_wp2
        go_end0
        exact ⟨rfl, by first | exact HD.out | exact HD.out.below (pw_below_drewN (Below.refl _ _) _)⟩
end Go.Proofs.Ytdgemabmmomebaa.PAttr

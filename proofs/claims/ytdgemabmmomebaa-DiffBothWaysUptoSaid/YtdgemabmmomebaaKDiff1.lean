/- Parts of the proof of Diff: nothing is claimed here by itself. -/
import Derived.Test.YtdgemabmmomebaaKDiff0
import Derived.Laws.Strings
import Derived.Test.YtdgemabmmomebaaProg
import Derived.Below
import Derived.Deep.Draws
import Derived.Deep.AppendLies
import Derived.Maps.AppendAt
import Derived.OwnWalk
import Derived.Laws.BytesArg
import Derived.Laws.MakeOwn
import Derived.Laws.OwnMore
import Derived.Deep.OwnRows
import Derived.Tactics
import Derived.Lib.ConvBytes
import Derived.Laws.Slices
import Derived.WalkKit
import Derived.KernelRfl
import Derived.RowKit3
import Derived.Deep.LoopGhost
import Derived.Deep.QuietTactic
import Derived.BigQuiet
import Derived.WideLaws
import Derived.Deep.DeepCutAuto
import Derived.Deep.CutBlock
import Derived.Deep.RegionHeld3
import Derived.Laws.Rows
import Derived.Lib.AppendStr
import Derived.ArgAppend
import Derived.Laws.IdiomCopy
import Derived.OrdersHeld
import Derived.Laws.BitsLemmas
import Derived.RowKit
import Derived.StillTailTactics
set_option linter.unusedVariables false
set_option linter.unusedSimpArgs false
section
namespace Go.Proofs.Ytdgemabmmomebaa.Ord
theorem less_irrefl (x : List UInt8) : Op.bytesLess x x = false := by
 induction x with
 | nil => rfl
 | cons a x ih => simp [Op.bytesLess, ih, UInt8.lt_irrefl]
theorem less_trans {x y z : List UInt8} : Op.bytesLess x y = true → Op.bytesLess y z = true → Op.bytesLess x z = true := by
 induction x generalizing y z with
 | nil =>
  cases y with
  | nil => intro h; simp [Op.bytesLess] at h
  | cons b y => cases z with
   | nil => intro _ h; simp [Op.bytesLess] at h
   | cons c z => intros; rfl
 | cons a x ih =>
  cases y with
  | nil => intro h; simp [Op.bytesLess] at h
  | cons b y => cases z with
   | nil => intro _ h; simp [Op.bytesLess] at h
   | cons c z =>
    simp only [Op.bytesLess, Bool.or_eq_true, decide_eq_true_eq, Bool.and_eq_true, beq_iff_eq]
    rintro (h1 | ⟨rfl, h1⟩) (h2 | ⟨rfl, h2⟩)
    ·exact .inl (UInt8.lt_trans h1 h2)
    ·exact .inl h1
    ·exact .inl h2
    ·exact .inr ⟨rfl, ih h1 h2⟩
theorem less_total {x y : List UInt8} : Op.bytesLess x y = false → Op.bytesLess y x = false → x = y := by
 induction x generalizing y with
 | nil =>
  cases y with
  | nil => intros; rfl
  | cons b y => intro h; simp [Op.bytesLess] at h
 | cons a x ih =>
  cases y with
  | nil => intro _ h; simp [Op.bytesLess] at h
  | cons b y =>
   simp only [Op.bytesLess, Bool.or_eq_false_iff, decide_eq_false_iff_not, Bool.and_eq_false_iff, beq_eq_false_iff_ne]
   rintro ⟨h1, h2⟩ ⟨h3, h4⟩
   have hab : a = b := UInt8.le_antisymm (UInt8.not_lt.1 h3) (UInt8.not_lt.1 h1)
   subst hab
   rw [ih (h2.resolve_left (fun h => h rfl)) (h4.resolve_left (fun h => h rfl))]
theorem less_asymm {x y : List UInt8} (h : Op.bytesLess x y = true) : Op.bytesLess y x = false := by
 cases h' : Op.bytesLess y x with
 | false => rfl
 | true => have := less_trans h h'; rw [less_irrefl] at this; cases this
theorem le_eq (x y : List UInt8) : (Op.bytesLess x y || x == y) = !Op.bytesLess y x := by
 cases h : Op.bytesLess x y with
 | true => rw [less_asymm h]; rfl
 | false =>
  cases h' : Op.bytesLess y x with
  | true =>
   have : (x == y) = false := beq_eq_false_iff_ne.2 (fun e => by subst e; rw [less_irrefl] at h'; cases h')
   rw [this]; rfl
  | false => rw [less_total h h']; simp
theorem leq_str (t : TypeId) (a b : ByteArray) : binOp .leq t (.string a) (.string b) = pure (.bool (!Op.bytesLess b.toList a.toList)) := by
 rw [← le_eq]; simp [binOp, Op.stringOp]
theorem gtr_str (t : TypeId) (a b : ByteArray) : binOp .gtr t (.string a) (.string b) = pure (.bool (Op.bytesLess b.toList a.toList)) := by
 rw [← Bool.not_not (Op.bytesLess b.toList a.toList), ← le_eq]; simp [binOp, Op.stringOp]
theorem geq_str (t : TypeId) (a b : ByteArray) : binOp .geq t (.string a) (.string b) = pure (.bool (!Op.bytesLess a.toList b.toList)) := by simp [binOp, Op.stringOp]
end Go.Proofs.Ytdgemabmmomebaa.Ord
end
section
namespace Go.Proofs.Ytdgemabmmomebaa.PDelta
open Go.RowKit Go.Proofs.YtdgemabmmomebaaW.PrintWords Go.Proofs.YtdgemabmmomebaaW.PrintLast Go.Proofs.YtdgemabmmomebaaW.PrintMore
attribute [local go_sem] max2_int min2_int max_two min_two max_three min_three max_four min_four
attribute [local go_sem high] Go.Proofs.Ytdgemabmmomebaa.Ord.leq_str Go.Proofs.Ytdgemabmmomebaa.Ord.gtr_str Go.Proofs.Ytdgemabmmomebaa.Ord.geq_str
theorem info38 : (Try.prog.info? 38).map (fun i => (i.zero, i.size, i.bytes)) = some (some (.agg #[(.string ⟨#[]⟩), (.string ⟨#[]⟩)]), 2, 32) := by kernel_rfl
theorem info70 : (Try.prog.info? 70).map (fun i => (i.zero, i.size, i.bytes)) = some (some (.agg #[(.int .i64 0), (.int .i64 0), (.slice none 0 0), (.slice none 0 0)]), 4, 64) := by kernel_rfl
theorem info84 : (Try.prog.info? 84).map (fun i => (i.zero, i.size, i.bytes)) = some (some (.agg #[(.int .i64 0), (.int .i64 0), (.slice none 0 0)]), 3, 40) := by kernel_rfl
structure S38 where
 f0 : ByteArray
 f1 : ByteArray
def z38 : S38 := ⟨(⟨#[]⟩ : ByteArray), (⟨#[]⟩ : ByteArray)⟩
def k38 : Kd S38 := Kd.iso (Kd.pair Kd.string Kd.string) (fun x : S38 => (x.f0, x.f1))
theorem k38_heap : Kd.Heap k38 := Kd.heap_iso _ (Kd.heap_pair Kd.heap_string Kd.heap_string)
theorem k38_open {w : World} {x : S38} {cs : List Value} (h : k38.K w x cs) : cs = [.string x.f0, .string x.f1] := by
 obtain ⟨_, _, rfl, rfl, rfl⟩ := h
 exact rfl
theorem k38_mk (w : World) (x : S38)  : k38.K w x [.string x.f0, .string x.f1] := ⟨[.string x.f0], [.string x.f1], rfl, rfl, rfl⟩
theorem k38_mkM (w : World) (base : Nat) (ok : Nat → Prop) (x : S38)  : k38.M w base ok x [.string x.f0, .string x.f1] := ⟨[.string x.f0], [.string x.f1], rfl, rfl, rfl⟩
theorem k38_mkF (W : World) (ok : Nat → Prop) (x : S38) : Kd.FK k38 W ok x [.string x.f0, .string x.f1] := fun W2 _ => k38_mk W2 x
def rd_T38 (xs : List S38) (i : Int) : S38 := xs.getD i.toNat z38
theorem at_T38 {w : World} {A : Option Addr} {n : Nat} {xs : List S38} (h : Kd.C k38 w A n xs) (i : Int) (h0 : 0 ≤ i) (h1 : i < n) : ∃ ad , A = some ad ∧ w.cell? (ad.add (i.toNat * 2)) = some (.string (rd_T38 xs i).f0) ∧ w.cell? ⟨(ad.add (i.toNat * 2)).block, (ad.add (i.toNat * 2)).off + 1, none⟩ = some (.string (rd_T38 xs i).f1) := by
 obtain ⟨ad, c, e, _, hK, hc0⟩ := Kd.C_get h z38 i h0 h1
 have hc : ∀ j u, c[j]? = some u → w.cell? (ad.add (i.toNat * 2 + j)) = some u := hc0
 obtain rfl := k38_open hK
 exact ⟨ad, e, hc 0 _ rfl, by rw [← add_field _ _ 1 (by omega)]; exact hc 1 _ rfl⟩
structure S84 where
 f0 : Int
 f1 : Int
 f2 : (List S38)
def z84 : S84 := ⟨(0 : Int), (0 : Int), ([] : List S38)⟩
def k84 : Kd S84 := Kd.iso (Kd.pair (Kd.int .i64) (Kd.pair (Kd.int .i64) (Kd.slice 38 k38))) (fun x : S84 => (x.f0, x.f1, x.f2))
theorem k84_heap : Kd.Heap k84 := Kd.heap_iso _ (Kd.heap_pair (Kd.heap_int .i64) (Kd.heap_pair (Kd.heap_int .i64) (Kd.heap_slice 38 k38_heap)))
theorem k84_open {w : World} {x : S84} {cs : List Value} (h : k84.K w x cs) : ∃ A2 c2, cs = [.int .i64 x.f0, .int .i64 x.f1, .slice A2 x.f2.length c2] ∧ x.f2.length ≤ c2 ∧ k38.C w A2 x.f2.length x.f2 := by
 obtain ⟨_, _, rfl, rfl, ⟨_, _, rfl, rfl, ⟨A2, c2, rfl, l2, g2⟩⟩⟩ := h
 exact ⟨A2, c2, rfl, l2, g2⟩
theorem k84_openM {w : World} {base : Nat} {ok : Nat → Prop} {x : S84} {cs : List Value} (h : k84.M w base ok x cs) : ∃ v2, cs = [.int .i64 x.f0, .int .i64 x.f1, v2] ∧ k38.R 38 w base ok v2 x.f2 := by
 obtain ⟨_, _, rfl, rfl, ⟨_, _, rfl, rfl, ⟨v2, rfl, g2⟩⟩⟩ := h
 exact ⟨v2, rfl, g2⟩
theorem k84_mk (w : World) (x : S84) {A2 : Option Addr} {c2 : Nat} (l2 : x.f2.length ≤ c2) (g2 : k38.C w A2 x.f2.length x.f2) : k84.K w x [.int .i64 x.f0, .int .i64 x.f1, .slice A2 x.f2.length c2] := ⟨[.int .i64 x.f0], [.int .i64 x.f1, .slice A2 x.f2.length c2], rfl, rfl, ⟨[.int .i64 x.f1], [.slice A2 x.f2.length c2], rfl, rfl, ⟨A2, c2, rfl, l2, g2⟩⟩⟩
theorem k84_mkM (w : World) (base : Nat) (ok : Nat → Prop) (x : S84) {v2 : Value} (g2 : k38.R 38 w base ok v2 x.f2) : k84.M w base ok x [.int .i64 x.f0, .int .i64 x.f1, v2] := ⟨[.int .i64 x.f0], [.int .i64 x.f1, v2], rfl, rfl, ⟨[.int .i64 x.f1], [v2], rfl, rfl, ⟨v2, rfl, g2⟩⟩⟩
theorem k84_openF {W : World} {ok : Nat → Prop} {x : S84} {cs : List Value} (h : Kd.FK k84 W ok x cs) : ∃ A2 c2, cs = [.int .i64 x.f0, .int .i64 x.f1, .slice A2 x.f2.length c2] ∧ x.f2.length ≤ c2 ∧ Kd.F k38 W ok A2 x.f2.length x.f2 := by
 obtain ⟨A2, c2, rfl, l2, _⟩ := k84_open (Kd.FK_now h)
 exact ⟨A2, c2, rfl, l2, (fun W' hW => by obtain ⟨A2_, c2_, he, l2_, g2_⟩ := k84_open (h W' hW); injection (Option.some.inj (show some (Value.slice A2 x.f2.length c2) = some (Value.slice A2_ x.f2.length c2_) from congrArg (fun l => l[2]?) he)) with ha_ _ _; rw [ha_]; exact g2_)⟩
theorem k84_mkF (W : World) (ok : Nat → Prop) (x : S84) {A2 : Option Addr} {c2 : Nat} (l2 : x.f2.length ≤ c2) (g2 : Kd.F k38 W ok A2 x.f2.length x.f2) : Kd.FK k84 W ok x [.int .i64 x.f0, .int .i64 x.f1, .slice A2 x.f2.length c2] := fun W2 hW => k84_mk W2 x l2 (g2 W2 hW)
def rd_T84 (xs : List S84) (i : Int) : S84 := xs.getD i.toNat z84
theorem at_T84 {w : World} {A : Option Addr} {n : Nat} {xs : List S84} (h : Kd.C k84 w A n xs) (i : Int) (h0 : 0 ≤ i) (h1 : i < n) : ∃ ad A2 c2, A = some ad ∧ w.cell? (ad.add (i.toNat * 3)) = some (.int .i64 (rd_T84 xs i).f0) ∧ w.cell? ⟨(ad.add (i.toNat * 3)).block, (ad.add (i.toNat * 3)).off + 1, none⟩ = some (.int .i64 (rd_T84 xs i).f1) ∧ w.cell? ⟨(ad.add (i.toNat * 3)).block, (ad.add (i.toNat * 3)).off + 2, none⟩ = some (.slice A2 (rd_T84 xs i).f2.length c2) ∧ (rd_T84 xs i).f2.length ≤ c2 ∧ k38.C w A2 (rd_T84 xs i).f2.length (rd_T84 xs i).f2 := by
 obtain ⟨ad, c, e, _, hK, hc0⟩ := Kd.C_get h z84 i h0 h1
 have hc : ∀ j u, c[j]? = some u → w.cell? (ad.add (i.toNat * 3 + j)) = some u := hc0
 obtain ⟨A2, c2, rfl, l2, g2⟩ := k84_open hK
 exact ⟨ad, A2, c2, e, hc 0 _ rfl, by rw [← add_field _ _ 1 (by omega)]; exact hc 1 _ rfl, by rw [← add_field _ _ 2 (by omega)]; exact hc 2 _ rfl, l2, g2⟩
structure S70 where
 f0 : Int
 f1 : Int
 f2 : (List S38)
 f3 : (List S84)
def z70 : S70 := ⟨(0 : Int), (0 : Int), ([] : List S38), ([] : List S84)⟩
def k70 : Kd S70 := Kd.iso (Kd.pair (Kd.int .i64) (Kd.pair (Kd.int .i64) (Kd.pair (Kd.slice 38 k38) (Kd.slice 84 k84)))) (fun x : S70 => (x.f0, x.f1, x.f2, x.f3))
theorem k70_heap : Kd.Heap k70 := Kd.heap_iso _ (Kd.heap_pair (Kd.heap_int .i64) (Kd.heap_pair (Kd.heap_int .i64) (Kd.heap_pair (Kd.heap_slice 38 k38_heap) (Kd.heap_slice 84 k84_heap))))
theorem k70_open {w : World} {x : S70} {cs : List Value} (h : k70.K w x cs) : ∃ A2 c2 A3 c3, cs = [.int .i64 x.f0, .int .i64 x.f1, .slice A2 x.f2.length c2, .slice A3 x.f3.length c3] ∧ x.f2.length ≤ c2 ∧ k38.C w A2 x.f2.length x.f2 ∧ x.f3.length ≤ c3 ∧ k84.C w A3 x.f3.length x.f3 := by
 obtain ⟨_, _, rfl, rfl, ⟨_, _, rfl, rfl, ⟨_, _, rfl, ⟨A2, c2, rfl, l2, g2⟩, ⟨A3, c3, rfl, l3, g3⟩⟩⟩⟩ := h
 exact ⟨A2, c2, A3, c3, rfl, l2, g2, l3, g3⟩
theorem k70_mk (w : World) (x : S70) {A2 : Option Addr} {c2 : Nat} (l2 : x.f2.length ≤ c2) (g2 : k38.C w A2 x.f2.length x.f2) {A3 : Option Addr} {c3 : Nat} (l3 : x.f3.length ≤ c3) (g3 : k84.C w A3 x.f3.length x.f3) : k70.K w x [.int .i64 x.f0, .int .i64 x.f1, .slice A2 x.f2.length c2, .slice A3 x.f3.length c3] := ⟨[.int .i64 x.f0], [.int .i64 x.f1, .slice A2 x.f2.length c2, .slice A3 x.f3.length c3], rfl, rfl, ⟨[.int .i64 x.f1], [.slice A2 x.f2.length c2, .slice A3 x.f3.length c3], rfl, rfl, ⟨[.slice A2 x.f2.length c2], [.slice A3 x.f3.length c3], rfl, ⟨A2, c2, rfl, l2, g2⟩, ⟨A3, c3, rfl, l3, g3⟩⟩⟩⟩
theorem k70_openF {W : World} {ok : Nat → Prop} {x : S70} {cs : List Value} (h : Kd.FK k70 W ok x cs) : ∃ A2 c2 A3 c3, cs = [.int .i64 x.f0, .int .i64 x.f1, .slice A2 x.f2.length c2, .slice A3 x.f3.length c3] ∧ x.f2.length ≤ c2 ∧ Kd.F k38 W ok A2 x.f2.length x.f2 ∧ x.f3.length ≤ c3 ∧ Kd.F k84 W ok A3 x.f3.length x.f3 := by
 obtain ⟨A2, c2, A3, c3, rfl, l2, _, l3, _⟩ := k70_open (Kd.FK_now h)
 exact ⟨A2, c2, A3, c3, rfl, l2, (fun W' hW => by obtain ⟨A2_, c2_, A3_, c3_, he, l2_, g2_, l3_, g3_⟩ := k70_open (h W' hW); injection (Option.some.inj (show some (Value.slice A2 x.f2.length c2) = some (Value.slice A2_ x.f2.length c2_) from congrArg (fun l => l[2]?) he)) with ha_ _ _; rw [ha_]; exact g2_), l3, (fun W' hW => by obtain ⟨A2_, c2_, A3_, c3_, he, l2_, g2_, l3_, g3_⟩ := k70_open (h W' hW); injection (Option.some.inj (show some (Value.slice A3 x.f3.length c3) = some (Value.slice A3_ x.f3.length c3_) from congrArg (fun l => l[3]?) he)) with ha_ _ _; rw [ha_]; exact g3_)⟩
theorem k70_mkF (W : World) (ok : Nat → Prop) (x : S70) {A2 : Option Addr} {c2 : Nat} (l2 : x.f2.length ≤ c2) (g2 : Kd.F k38 W ok A2 x.f2.length x.f2) {A3 : Option Addr} {c3 : Nat} (l3 : x.f3.length ≤ c3) (g3 : Kd.F k84 W ok A3 x.f3.length x.f3) : Kd.FK k70 W ok x [.int .i64 x.f0, .int .i64 x.f1, .slice A2 x.f2.length c2, .slice A3 x.f3.length c3] := fun W2 hW => k70_mk W2 x l2 (g2 W2 hW) l3 (g3 W2 hW)
def rd_T70 (xs : List S70) (i : Int) : S70 := xs.getD i.toNat z70
theorem at_T70 {w : World} {A : Option Addr} {n : Nat} {xs : List S70} (h : Kd.C k70 w A n xs) (i : Int) (h0 : 0 ≤ i) (h1 : i < n) : ∃ ad A2 c2 A3 c3, A = some ad ∧ w.cell? (ad.add (i.toNat * 4)) = some (.int .i64 (rd_T70 xs i).f0) ∧ w.cell? ⟨(ad.add (i.toNat * 4)).block, (ad.add (i.toNat * 4)).off + 1, none⟩ = some (.int .i64 (rd_T70 xs i).f1) ∧ w.cell? ⟨(ad.add (i.toNat * 4)).block, (ad.add (i.toNat * 4)).off + 2, none⟩ = some (.slice A2 (rd_T70 xs i).f2.length c2) ∧ w.cell? ⟨(ad.add (i.toNat * 4)).block, (ad.add (i.toNat * 4)).off + 3, none⟩ = some (.slice A3 (rd_T70 xs i).f3.length c3) ∧ (rd_T70 xs i).f2.length ≤ c2 ∧ k38.C w A2 (rd_T70 xs i).f2.length (rd_T70 xs i).f2 ∧ (rd_T70 xs i).f3.length ≤ c3 ∧ k84.C w A3 (rd_T70 xs i).f3.length (rd_T70 xs i).f3 := by
 obtain ⟨ad, c, e, _, hK, hc0⟩ := Kd.C_get h z70 i h0 h1
 have hc : ∀ j u, c[j]? = some u → w.cell? (ad.add (i.toNat * 4 + j)) = some u := hc0
 obtain ⟨A2, c2, A3, c3, rfl, l2, g2, l3, g3⟩ := k70_open hK
 exact ⟨ad, A2, c2, A3, c3, e, hc 0 _ rfl, by rw [← add_field _ _ 1 (by omega)]; exact hc 1 _ rfl, by rw [← add_field _ _ 2 (by omega)]; exact hc 2 _ rfl, by rw [← add_field _ _ 3 (by omega)]; exact hc 3 _ rfl, l2, g2, l3, g3⟩
def chanceryref1_Name.l0 : Nat → ByteArray → Int → Int → Option (Bool)
 | 0, _, _, _ => none
 | k + 1, x0, x6, x7 => if x7 < x6 then (if 0 ≤ x7 then (if x7 < (x0.size : Int) then (if (bt x0 x7) ≥ 97 then (if ((bt x0 x7) ≤ 122) then (chanceryref1_Name.l0 k x0 x6 (wrap64 (x7 + 1))) else (if x7 = 0 then (some false) else (if (bt x0 x7) = 46 then (chanceryref1_Name.l0 k x0 x6 (wrap64 (x7 + 1))) else (if (bt x0 x7) = 45 then (chanceryref1_Name.l0 k x0 x6 (wrap64 (x7 + 1))) else (if (bt x0 x7) < 48 then (some false) else (if (bt x0 x7) > 57 then (some false) else (chanceryref1_Name.l0 k x0 x6 (wrap64 (x7 + 1))))))))) else (if x7 = 0 then (some false) else (if (bt x0 x7) = 46 then (chanceryref1_Name.l0 k x0 x6 (wrap64 (x7 + 1))) else (if (bt x0 x7) = 45 then (chanceryref1_Name.l0 k x0 x6 (wrap64 (x7 + 1))) else (if (bt x0 x7) < 48 then (some false) else (if (bt x0 x7) > 57 then (some false) else (chanceryref1_Name.l0 k x0 x6 (wrap64 (x7 + 1))))))))) else (none)) else (none)) else (if (x0.size : Int) ≥ 1 then (some (decide ((x0.size : Int) ≤ 24))) else (some false))
def chanceryref1_Name.f (k : Nat) (a0 : ByteArray) : Option (Bool) := chanceryref1_Name.l0 k a0 (a0.size : Int) 0
theorem chanceryref1_Name.mono_l : ∀ k, (∀ y0 y1 y2, LeO (chanceryref1_Name.l0 k y0 y1 y2) (chanceryref1_Name.l0 (k + 1) y0 y1 y2))
 | 0 => fun _ _ _ r h => by simp [chanceryref1_Name.l0] at h
 | k + 1 => by
  have ih0 := chanceryref1_Name.mono_l k
  ·intro y0 y1 y2
   unfold chanceryref1_Name.l0
   repeat' first
   | (with_reducible exact ih0 _ _ _)
   | (with_reducible exact LeO.refl _)
   | (with_reducible exact LeO.none _)
   | (with_reducible refine LeO.ite ?_ ?_)
   | (with_reducible refine LeO.bind ?_ (fun _ => ?_))
   | exact ih0 _ _ _
   | exact LeO.none _
   | refine LeO.ite ?_ ?_
   | refine LeO.bind ?_ (fun _ => ?_)
theorem chanceryref1_Name.mono : ∀ a0 k, LeO (chanceryref1_Name.f k a0) (chanceryref1_Name.f (k + 1) a0) := by
 intro a0 k
 have ih0 := chanceryref1_Name.mono_l k
 unfold chanceryref1_Name.f
 repeat' first
   | (with_reducible exact ih0 _ _ _)
   | (with_reducible exact LeO.refl _)
   | (with_reducible exact LeO.none _)
   | (with_reducible refine LeO.ite ?_ ?_)
   | (with_reducible refine LeO.bind ?_ (fun _ => ?_))
   | exact ih0 _ _ _
   | exact LeO.none _
   | refine LeO.ite ?_ ?_
   | refine LeO.bind ?_ (fun _ => ?_)
set_option maxHeartbeats 8000000 in
set_option maxRecDepth 100000 in
theorem chanceryref1_Name.calls (k : Nat) (a0 : ByteArray) (r : Bool) (w : World) (h : chanceryref1_Name.f k a0 = some r) :
  Calls Try.prog 62 #[.string a0] w fun e w' => e = .returned (.bool r) ∧ Drawn0 w w' := by
 have H : (chanceryref1_Name.l0 k a0 (a0.size : Int) 0) = some r := h
 clear h
 have H' := Aside0.mk H
 clear H
 go_enter Try.func62, Try.ntmps62
 go_wp2
 go_loopg [7] k (fun kq v7 w' => ∃ (x7_1 : Int), v7 = .int .i64 x7_1 ∧ Aside0 (chanceryref1_Name.l0 kq a0 (a0.size : Int) x7_1 = some r) ∧ Aside0 (kq ≤ k) ∧ Drawn0 w w')
 case atStart => exact ⟨(0), (by first | rfl | (simp; done) | (simp [*]; done)), H', ⟨Nat.le_refl _⟩, by repeat (first | exact Drawn0.refl _ | apply Drawn0.step)⟩
 case round =>
  clear H'
  obtain ⟨x7_1, rfl, HA, HK1, ⟨m1, rfl⟩⟩ := hrel
  cases gk with
  | zero => exact absurd HA.out (by simp [chanceryref1_Name.l0])
  | succ k1 =>
   have H := HA.out
   clear HA
   simp only [chanceryref1_Name.l0] at H
   by_cases c2 : x7_1 < (a0.size : Int)
   ·rw [if_pos c2] at H
    have c2b0 : decide (x7_1 < (a0.size : Int)) = true := decide_eq_true c2
    clear c2
    by_cases c3 : 0 ≤ x7_1
    ·rw [if_pos c3] at H
     have c3b0 : decide (0 ≤ x7_1) = true := decide_eq_true c3
     clear c3
     by_cases c4 : x7_1 < (a0.size : Int)
     ·rw [if_pos c4] at H
      have c4b0 : decide (x7_1 < (a0.size : Int)) = true := decide_eq_true c4
      clear c4
      by_cases c6 : (bt a0 x7_1) ≥ 97
      ·rw [if_pos c6] at H
       have c6b0 : decide (97 ≤ (bt a0 x7_1)) = true := decide_eq_true c6
       clear c6
       by_cases c8 : ((bt a0 x7_1) ≤ 122)
       ·rw [if_pos c8] at H
        have c8b0 : decide ((bt a0 x7_1) ≤ 122) = true := decide_eq_true c8
        clear c8
        have H' := Aside0.mk H
        clear H
        have p5 : 0 ≤ (x7_1 : Int) := of_decide_eq_true (by assumption)
        have q5 : x7_1 < (a0.size : Int) := of_decide_eq_true (by assumption)
        have hx5 := bt_at a0 x7_1
        replace p5 := eq_true p5
        replace q5 := eq_true q5
        have p7 : 0 ≤ (x7_1 : Int) := of_decide_eq_true (by assumption)
        have q7 : x7_1 < (a0.size : Int) := of_decide_eq_true (by assumption)
        have hx7 := bt_at a0 x7_1
        replace p7 := eq_true p7
        replace q7 := eq_true q7
        go_wp2
        go_roundg k1
        case measure => have := HK1.out; omega
        case rel => exact ⟨(wrap64 (x7_1 + 1)), (by first | rfl | (simp; done) | (simp [*]; done)), H', ⟨by have := HK1.out; omega⟩, by repeat (first | exact Drawn0.refl _ | apply Drawn0.step)⟩
       ·rw [if_neg c8] at H
        have c8b0 : decide ((bt a0 x7_1) ≤ 122) = false := decide_eq_false c8
        clear c8
        by_cases c9 : x7_1 = 0
        ·rw [if_pos c9] at H
         have c9b0 : (x7_1 == 0) = true := beq_iff_eq.mpr c9
         have c9b1 : (x7_1 != 0) = false := bne_eq_false_iff_eq.mpr c9
         clear c9
         obtain rfl := Option.some.inj H
         have p5 : 0 ≤ (x7_1 : Int) := of_decide_eq_true (by assumption)
         have q5 : x7_1 < (a0.size : Int) := of_decide_eq_true (by assumption)
         have hx5 := bt_at a0 x7_1
         replace p5 := eq_true p5
         replace q5 := eq_true q5
         have p7 : 0 ≤ (x7_1 : Int) := of_decide_eq_true (by assumption)
         have q7 : x7_1 < (a0.size : Int) := of_decide_eq_true (by assumption)
         have hx7 := bt_at a0 x7_1
         replace p7 := eq_true p7
         replace q7 := eq_true q7
         go_wp2
         go_ret
         exact ⟨by first | rfl | (simp; done) | (simp [*]; done), by repeat (first | exact Drawn0.refl _ | apply Drawn0.step)⟩
        ·rw [if_neg c9] at H
         have c9b0 : (x7_1 == 0) = false := beq_eq_false_iff_ne.mpr c9
         have c9b1 : (x7_1 != 0) = true := bne_iff_ne.mpr c9
         by_cases c11 : (bt a0 x7_1) = 46
         ·rw [if_pos c11] at H
          have c11b0 : ((bt a0 x7_1) == 46) = true := beq_iff_eq.mpr c11
          have c11b1 : ((bt a0 x7_1) != 46) = false := bne_eq_false_iff_eq.mpr c11
          clear c11
          have H' := Aside0.mk H
          clear H
          have p5 : 0 ≤ (x7_1 : Int) := of_decide_eq_true (by assumption)
          have q5 : x7_1 < (a0.size : Int) := of_decide_eq_true (by assumption)
          have hx5 := bt_at a0 x7_1
          replace p5 := eq_true p5
          replace q5 := eq_true q5
          have p7 : 0 ≤ (x7_1 : Int) := of_decide_eq_true (by assumption)
          have q7 : x7_1 < (a0.size : Int) := of_decide_eq_true (by assumption)
          have hx7 := bt_at a0 x7_1
          replace p7 := eq_true p7
          replace q7 := eq_true q7
          have p10 : 0 ≤ (x7_1 : Int) := of_decide_eq_true (by assumption)
          have q10 : x7_1 < (a0.size : Int) := of_decide_eq_true (by assumption)
          have hx10 := bt_at a0 x7_1
          replace p10 := eq_true p10
          replace q10 := eq_true q10
          go_wp2
          go_roundg k1
          case measure => have := HK1.out; omega
          case rel => exact ⟨(wrap64 (x7_1 + 1)), (by first | rfl | (simp; done) | (simp [*]; done)), H', ⟨by have := HK1.out; omega⟩, by repeat (first | exact Drawn0.refl _ | apply Drawn0.step)⟩
         ·rw [if_neg c11] at H
          have c11b0 : ((bt a0 x7_1) == 46) = false := beq_eq_false_iff_ne.mpr c11
          have c11b1 : ((bt a0 x7_1) != 46) = true := bne_iff_ne.mpr c11
          by_cases c13 : (bt a0 x7_1) = 45
          ·rw [if_pos c13] at H
           have c13b0 : ((bt a0 x7_1) == 45) = true := beq_iff_eq.mpr c13
           have c13b1 : ((bt a0 x7_1) != 45) = false := bne_eq_false_iff_eq.mpr c13
           clear c13
           have H' := Aside0.mk H
           clear H
           have p5 : 0 ≤ (x7_1 : Int) := of_decide_eq_true (by assumption)
           have q5 : x7_1 < (a0.size : Int) := of_decide_eq_true (by assumption)
           have hx5 := bt_at a0 x7_1
           replace p5 := eq_true p5
           replace q5 := eq_true q5
           have p7 : 0 ≤ (x7_1 : Int) := of_decide_eq_true (by assumption)
           have q7 : x7_1 < (a0.size : Int) := of_decide_eq_true (by assumption)
           have hx7 := bt_at a0 x7_1
           replace p7 := eq_true p7
           replace q7 := eq_true q7
           have p10 : 0 ≤ (x7_1 : Int) := of_decide_eq_true (by assumption)
           have q10 : x7_1 < (a0.size : Int) := of_decide_eq_true (by assumption)
           have hx10 := bt_at a0 x7_1
           replace p10 := eq_true p10
           replace q10 := eq_true q10
           have p12 : 0 ≤ (x7_1 : Int) := of_decide_eq_true (by assumption)
           have q12 : x7_1 < (a0.size : Int) := of_decide_eq_true (by assumption)
           have hx12 := bt_at a0 x7_1
           replace p12 := eq_true p12
           replace q12 := eq_true q12
           go_wp2
           go_roundg k1
           case measure => have := HK1.out; omega
           case rel => exact ⟨(wrap64 (x7_1 + 1)), (by first | rfl | (simp; done) | (simp [*]; done)), H', ⟨by have := HK1.out; omega⟩, by repeat (first | exact Drawn0.refl _ | apply Drawn0.step)⟩
          ·rw [if_neg c13] at H
           have c13b0 : ((bt a0 x7_1) == 45) = false := beq_eq_false_iff_ne.mpr c13
           have c13b1 : ((bt a0 x7_1) != 45) = true := bne_iff_ne.mpr c13
           by_cases c15 : (bt a0 x7_1) < 48
           ·rw [if_pos c15] at H
            have c15b0 : decide ((bt a0 x7_1) < 48) = true := decide_eq_true c15
            clear c15
            obtain rfl := Option.some.inj H
            have p5 : 0 ≤ (x7_1 : Int) := of_decide_eq_true (by assumption)
            have q5 : x7_1 < (a0.size : Int) := of_decide_eq_true (by assumption)
            have hx5 := bt_at a0 x7_1
            replace p5 := eq_true p5
            replace q5 := eq_true q5
            have p7 : 0 ≤ (x7_1 : Int) := of_decide_eq_true (by assumption)
            have q7 : x7_1 < (a0.size : Int) := of_decide_eq_true (by assumption)
            have hx7 := bt_at a0 x7_1
            replace p7 := eq_true p7
            replace q7 := eq_true q7
            have p10 : 0 ≤ (x7_1 : Int) := of_decide_eq_true (by assumption)
            have q10 : x7_1 < (a0.size : Int) := of_decide_eq_true (by assumption)
            have hx10 := bt_at a0 x7_1
            replace p10 := eq_true p10
            replace q10 := eq_true q10
            have p12 : 0 ≤ (x7_1 : Int) := of_decide_eq_true (by assumption)
            have q12 : x7_1 < (a0.size : Int) := of_decide_eq_true (by assumption)
            have hx12 := bt_at a0 x7_1
            replace p12 := eq_true p12
            replace q12 := eq_true q12
            have p14 : 0 ≤ (x7_1 : Int) := of_decide_eq_true (by assumption)
            have q14 : x7_1 < (a0.size : Int) := of_decide_eq_true (by assumption)
            have hx14 := bt_at a0 x7_1
            replace p14 := eq_true p14
            replace q14 := eq_true q14
            go_wp2
            go_ret
            exact ⟨by first | rfl | (simp; done) | (simp [*]; done), by repeat (first | exact Drawn0.refl _ | apply Drawn0.step)⟩
           ·rw [if_neg c15] at H
            have c15b0 : decide ((bt a0 x7_1) < 48) = false := decide_eq_false c15
            clear c15
            by_cases c17 : (bt a0 x7_1) > 57
            ·rw [if_pos c17] at H
             have c17b0 : decide (57 < (bt a0 x7_1)) = true := decide_eq_true c17
             clear c17
             obtain rfl := Option.some.inj H
             have p5 : 0 ≤ (x7_1 : Int) := of_decide_eq_true (by assumption)
             have q5 : x7_1 < (a0.size : Int) := of_decide_eq_true (by assumption)
             have hx5 := bt_at a0 x7_1
             replace p5 := eq_true p5
             replace q5 := eq_true q5
             have p7 : 0 ≤ (x7_1 : Int) := of_decide_eq_true (by assumption)
             have q7 : x7_1 < (a0.size : Int) := of_decide_eq_true (by assumption)
             have hx7 := bt_at a0 x7_1
             replace p7 := eq_true p7
             replace q7 := eq_true q7
             have p10 : 0 ≤ (x7_1 : Int) := of_decide_eq_true (by assumption)
             have q10 : x7_1 < (a0.size : Int) := of_decide_eq_true (by assumption)
             have hx10 := bt_at a0 x7_1
             replace p10 := eq_true p10
             replace q10 := eq_true q10
             have p12 : 0 ≤ (x7_1 : Int) := of_decide_eq_true (by assumption)
             have q12 : x7_1 < (a0.size : Int) := of_decide_eq_true (by assumption)
             have hx12 := bt_at a0 x7_1
             replace p12 := eq_true p12
             replace q12 := eq_true q12
             have p14 : 0 ≤ (x7_1 : Int) := of_decide_eq_true (by assumption)
             have q14 : x7_1 < (a0.size : Int) := of_decide_eq_true (by assumption)
             have hx14 := bt_at a0 x7_1
             replace p14 := eq_true p14
             replace q14 := eq_true q14
             have p16 : 0 ≤ (x7_1 : Int) := of_decide_eq_true (by assumption)
             have q16 : x7_1 < (a0.size : Int) := of_decide_eq_true (by assumption)
             have hx16 := bt_at a0 x7_1
             replace p16 := eq_true p16
             replace q16 := eq_true q16
             go_wp2
             go_ret
             exact ⟨by first | rfl | (simp; done) | (simp [*]; done), by repeat (first | exact Drawn0.refl _ | apply Drawn0.step)⟩
            ·rw [if_neg c17] at H
             have c17b0 : decide (57 < (bt a0 x7_1)) = false := decide_eq_false c17
             clear c17
             have H' := Aside0.mk H
             clear H
             have p5 : 0 ≤ (x7_1 : Int) := of_decide_eq_true (by assumption)
             have q5 : x7_1 < (a0.size : Int) := of_decide_eq_true (by assumption)
             have hx5 := bt_at a0 x7_1
             replace p5 := eq_true p5
             replace q5 := eq_true q5
             have p7 : 0 ≤ (x7_1 : Int) := of_decide_eq_true (by assumption)
             have q7 : x7_1 < (a0.size : Int) := of_decide_eq_true (by assumption)
             have hx7 := bt_at a0 x7_1
             replace p7 := eq_true p7
             replace q7 := eq_true q7
             have p10 : 0 ≤ (x7_1 : Int) := of_decide_eq_true (by assumption)
             have q10 : x7_1 < (a0.size : Int) := of_decide_eq_true (by assumption)
             have hx10 := bt_at a0 x7_1
             replace p10 := eq_true p10
             replace q10 := eq_true q10
             have p12 : 0 ≤ (x7_1 : Int) := of_decide_eq_true (by assumption)
             have q12 : x7_1 < (a0.size : Int) := of_decide_eq_true (by assumption)
             have hx12 := bt_at a0 x7_1
             replace p12 := eq_true p12
             replace q12 := eq_true q12
             have p14 : 0 ≤ (x7_1 : Int) := of_decide_eq_true (by assumption)
             have q14 : x7_1 < (a0.size : Int) := of_decide_eq_true (by assumption)
             have hx14 := bt_at a0 x7_1
             replace p14 := eq_true p14
             replace q14 := eq_true q14
             have p16 : 0 ≤ (x7_1 : Int) := of_decide_eq_true (by assumption)
             have q16 : x7_1 < (a0.size : Int) := of_decide_eq_true (by assumption)
             have hx16 := bt_at a0 x7_1
             replace p16 := eq_true p16
             replace q16 := eq_true q16
             go_wp2
             go_roundg k1
             case measure => have := HK1.out; omega
             case rel => exact ⟨(wrap64 (x7_1 + 1)), (by first | rfl | (simp; done) | (simp [*]; done)), H', ⟨by have := HK1.out; omega⟩, by repeat (first | exact Drawn0.refl _ | apply Drawn0.step)⟩
      ·rw [if_neg c6] at H
       have c6b0 : decide (97 ≤ (bt a0 x7_1)) = false := decide_eq_false c6
       clear c6
       by_cases c18 : x7_1 = 0
       ·rw [if_pos c18] at H
        have c18b0 : (x7_1 == 0) = true := beq_iff_eq.mpr c18
        have c18b1 : (x7_1 != 0) = false := bne_eq_false_iff_eq.mpr c18
        clear c18
        obtain rfl := Option.some.inj H
        have p5 : 0 ≤ (x7_1 : Int) := of_decide_eq_true (by assumption)
        have q5 : x7_1 < (a0.size : Int) := of_decide_eq_true (by assumption)
        have hx5 := bt_at a0 x7_1
        replace p5 := eq_true p5
        replace q5 := eq_true q5
        go_wp2
        go_ret
        exact ⟨by first | rfl | (simp; done) | (simp [*]; done), by repeat (first | exact Drawn0.refl _ | apply Drawn0.step)⟩
       ·rw [if_neg c18] at H
        have c18b0 : (x7_1 == 0) = false := beq_eq_false_iff_ne.mpr c18
        have c18b1 : (x7_1 != 0) = true := bne_iff_ne.mpr c18
        by_cases c20 : (bt a0 x7_1) = 46
        ·rw [if_pos c20] at H
         have c20b0 : ((bt a0 x7_1) == 46) = true := beq_iff_eq.mpr c20
         have c20b1 : ((bt a0 x7_1) != 46) = false := bne_eq_false_iff_eq.mpr c20
         clear c20
         have H' := Aside0.mk H
         clear H
         have p5 : 0 ≤ (x7_1 : Int) := of_decide_eq_true (by assumption)
         have q5 : x7_1 < (a0.size : Int) := of_decide_eq_true (by assumption)
         have hx5 := bt_at a0 x7_1
         replace p5 := eq_true p5
         replace q5 := eq_true q5
         have p19 : 0 ≤ (x7_1 : Int) := of_decide_eq_true (by assumption)
         have q19 : x7_1 < (a0.size : Int) := of_decide_eq_true (by assumption)
         have hx19 := bt_at a0 x7_1
         replace p19 := eq_true p19
         replace q19 := eq_true q19
         go_wp2
         go_roundg k1
         case measure => have := HK1.out; omega
         case rel => exact ⟨(wrap64 (x7_1 + 1)), (by first | rfl | (simp; done) | (simp [*]; done)), H', ⟨by have := HK1.out; omega⟩, by repeat (first | exact Drawn0.refl _ | apply Drawn0.step)⟩
        ·rw [if_neg c20] at H
         have c20b0 : ((bt a0 x7_1) == 46) = false := beq_eq_false_iff_ne.mpr c20
         have c20b1 : ((bt a0 x7_1) != 46) = true := bne_iff_ne.mpr c20
         by_cases c22 : (bt a0 x7_1) = 45
         ·rw [if_pos c22] at H
          have c22b0 : ((bt a0 x7_1) == 45) = true := beq_iff_eq.mpr c22
          have c22b1 : ((bt a0 x7_1) != 45) = false := bne_eq_false_iff_eq.mpr c22
          clear c22
          have H' := Aside0.mk H
          clear H
          have p5 : 0 ≤ (x7_1 : Int) := of_decide_eq_true (by assumption)
          have q5 : x7_1 < (a0.size : Int) := of_decide_eq_true (by assumption)
          have hx5 := bt_at a0 x7_1
          replace p5 := eq_true p5
          replace q5 := eq_true q5
          have p19 : 0 ≤ (x7_1 : Int) := of_decide_eq_true (by assumption)
          have q19 : x7_1 < (a0.size : Int) := of_decide_eq_true (by assumption)
          have hx19 := bt_at a0 x7_1
          replace p19 := eq_true p19
          replace q19 := eq_true q19
          have p21 : 0 ≤ (x7_1 : Int) := of_decide_eq_true (by assumption)
          have q21 : x7_1 < (a0.size : Int) := of_decide_eq_true (by assumption)
          have hx21 := bt_at a0 x7_1
          replace p21 := eq_true p21
          replace q21 := eq_true q21
          go_wp2
          go_roundg k1
          case measure => have := HK1.out; omega
          case rel => exact ⟨(wrap64 (x7_1 + 1)), (by first | rfl | (simp; done) | (simp [*]; done)), H', ⟨by have := HK1.out; omega⟩, by repeat (first | exact Drawn0.refl _ | apply Drawn0.step)⟩
         ·rw [if_neg c22] at H
          have c22b0 : ((bt a0 x7_1) == 45) = false := beq_eq_false_iff_ne.mpr c22
          have c22b1 : ((bt a0 x7_1) != 45) = true := bne_iff_ne.mpr c22
          by_cases c24 : (bt a0 x7_1) < 48
          ·rw [if_pos c24] at H
           have c24b0 : decide ((bt a0 x7_1) < 48) = true := decide_eq_true c24
           clear c24
           obtain rfl := Option.some.inj H
           have p5 : 0 ≤ (x7_1 : Int) := of_decide_eq_true (by assumption)
           have q5 : x7_1 < (a0.size : Int) := of_decide_eq_true (by assumption)
           have hx5 := bt_at a0 x7_1
           replace p5 := eq_true p5
           replace q5 := eq_true q5
           have p19 : 0 ≤ (x7_1 : Int) := of_decide_eq_true (by assumption)
           have q19 : x7_1 < (a0.size : Int) := of_decide_eq_true (by assumption)
           have hx19 := bt_at a0 x7_1
           replace p19 := eq_true p19
           replace q19 := eq_true q19
           have p21 : 0 ≤ (x7_1 : Int) := of_decide_eq_true (by assumption)
           have q21 : x7_1 < (a0.size : Int) := of_decide_eq_true (by assumption)
           have hx21 := bt_at a0 x7_1
           replace p21 := eq_true p21
           replace q21 := eq_true q21
           have p23 : 0 ≤ (x7_1 : Int) := of_decide_eq_true (by assumption)
           have q23 : x7_1 < (a0.size : Int) := of_decide_eq_true (by assumption)
           have hx23 := bt_at a0 x7_1
           replace p23 := eq_true p23
           replace q23 := eq_true q23
           go_wp2
           go_ret
           exact ⟨by first | rfl | (simp; done) | (simp [*]; done), by repeat (first | exact Drawn0.refl _ | apply Drawn0.step)⟩
          ·rw [if_neg c24] at H
           have c24b0 : decide ((bt a0 x7_1) < 48) = false := decide_eq_false c24
           clear c24
           by_cases c26 : (bt a0 x7_1) > 57
           ·rw [if_pos c26] at H
            have c26b0 : decide (57 < (bt a0 x7_1)) = true := decide_eq_true c26
            clear c26
            obtain rfl := Option.some.inj H
            have p5 : 0 ≤ (x7_1 : Int) := of_decide_eq_true (by assumption)
            have q5 : x7_1 < (a0.size : Int) := of_decide_eq_true (by assumption)
            have hx5 := bt_at a0 x7_1
            replace p5 := eq_true p5
            replace q5 := eq_true q5
            have p19 : 0 ≤ (x7_1 : Int) := of_decide_eq_true (by assumption)
            have q19 : x7_1 < (a0.size : Int) := of_decide_eq_true (by assumption)
            have hx19 := bt_at a0 x7_1
            replace p19 := eq_true p19
            replace q19 := eq_true q19
            have p21 : 0 ≤ (x7_1 : Int) := of_decide_eq_true (by assumption)
            have q21 : x7_1 < (a0.size : Int) := of_decide_eq_true (by assumption)
            have hx21 := bt_at a0 x7_1
            replace p21 := eq_true p21
            replace q21 := eq_true q21
            have p23 : 0 ≤ (x7_1 : Int) := of_decide_eq_true (by assumption)
            have q23 : x7_1 < (a0.size : Int) := of_decide_eq_true (by assumption)
            have hx23 := bt_at a0 x7_1
            replace p23 := eq_true p23
            replace q23 := eq_true q23
            have p25 : 0 ≤ (x7_1 : Int) := of_decide_eq_true (by assumption)
            have q25 : x7_1 < (a0.size : Int) := of_decide_eq_true (by assumption)
            have hx25 := bt_at a0 x7_1
            replace p25 := eq_true p25
            replace q25 := eq_true q25
            go_wp2
            go_ret
            exact ⟨by first | rfl | (simp; done) | (simp [*]; done), by repeat (first | exact Drawn0.refl _ | apply Drawn0.step)⟩
           ·rw [if_neg c26] at H
            have c26b0 : decide (57 < (bt a0 x7_1)) = false := decide_eq_false c26
            clear c26
            have H' := Aside0.mk H
            clear H
            have p5 : 0 ≤ (x7_1 : Int) := of_decide_eq_true (by assumption)
            have q5 : x7_1 < (a0.size : Int) := of_decide_eq_true (by assumption)
            have hx5 := bt_at a0 x7_1
            replace p5 := eq_true p5
            replace q5 := eq_true q5
            have p19 : 0 ≤ (x7_1 : Int) := of_decide_eq_true (by assumption)
            have q19 : x7_1 < (a0.size : Int) := of_decide_eq_true (by assumption)
            have hx19 := bt_at a0 x7_1
            replace p19 := eq_true p19
            replace q19 := eq_true q19
            have p21 : 0 ≤ (x7_1 : Int) := of_decide_eq_true (by assumption)
            have q21 : x7_1 < (a0.size : Int) := of_decide_eq_true (by assumption)
            have hx21 := bt_at a0 x7_1
            replace p21 := eq_true p21
            replace q21 := eq_true q21
            have p23 : 0 ≤ (x7_1 : Int) := of_decide_eq_true (by assumption)
            have q23 : x7_1 < (a0.size : Int) := of_decide_eq_true (by assumption)
            have hx23 := bt_at a0 x7_1
            replace p23 := eq_true p23
            replace q23 := eq_true q23
            have p25 : 0 ≤ (x7_1 : Int) := of_decide_eq_true (by assumption)
            have q25 : x7_1 < (a0.size : Int) := of_decide_eq_true (by assumption)
            have hx25 := bt_at a0 x7_1
            replace p25 := eq_true p25
            replace q25 := eq_true q25
            go_wp2
            go_roundg k1
            case measure => have := HK1.out; omega
            case rel => exact ⟨(wrap64 (x7_1 + 1)), (by first | rfl | (simp; done) | (simp [*]; done)), H', ⟨by have := HK1.out; omega⟩, by repeat (first | exact Drawn0.refl _ | apply Drawn0.step)⟩
     ·rw [if_neg c4] at H
      exact absurd H (by simp)
    ·rw [if_neg c3] at H
     exact absurd H (by simp)
   ·rw [if_neg c2] at H
    have c2b0 : decide (x7_1 < (a0.size : Int)) = false := decide_eq_false c2
    clear c2
    by_cases c27 : (a0.size : Int) ≥ 1
    ·rw [if_pos c27] at H
     have c27b0 : decide (1 ≤ (a0.size : Int)) = true := decide_eq_true c27
     have c27b1 : decide (1 ≤ a0.size) = true := decide_eq_true (by omega)
     clear c27
     obtain rfl := Option.some.inj H
     go_wp2
     go_ret
     exact ⟨by first | rfl | (simp; done) | (simp [*]; done), by repeat (first | exact Drawn0.refl _ | apply Drawn0.step)⟩
    ·rw [if_neg c27] at H
     have c27b0 : decide (1 ≤ (a0.size : Int)) = false := decide_eq_false c27
     have c27b1 : decide (1 ≤ a0.size) = false := decide_eq_false (by omega)
     clear c27
     obtain rfl := Option.some.inj H
     go_wp2
     go_ret
     exact ⟨by first | rfl | (simp; done) | (simp [*]; done), by repeat (first | exact Drawn0.refl _ | apply Drawn0.step)⟩
def chanceryref1_Value.l0 : Nat → ByteArray → Int → Int → Option (Bool)
 | 0, _, _, _ => none
 | k + 1, x0, x5, x6 => if x6 < x5 then (if 0 ≤ x6 then (if x6 < (x0.size : Int) then (if (bt x0 x6) < 32 then (some false) else (if (bt x0 x6) > 126 then (some false) else (chanceryref1_Value.l0 k x0 x5 (wrap64 (x6 + 1))))) else (none)) else (none)) else (if (x0.size : Int) ≥ 1 then (some (decide ((x0.size : Int) ≤ 200))) else (some false))
def chanceryref1_Value.f (k : Nat) (a0 : ByteArray) : Option (Bool) := chanceryref1_Value.l0 k a0 (a0.size : Int) 0
theorem chanceryref1_Value.mono_l : ∀ k, (∀ y0 y1 y2, LeO (chanceryref1_Value.l0 k y0 y1 y2) (chanceryref1_Value.l0 (k + 1) y0 y1 y2))
 | 0 => fun _ _ _ r h => by simp [chanceryref1_Value.l0] at h
 | k + 1 => by
  have ih0 := chanceryref1_Value.mono_l k
  ·intro y0 y1 y2
   unfold chanceryref1_Value.l0
   repeat' first
   | (with_reducible exact ih0 _ _ _)
   | (with_reducible exact LeO.refl _)
   | (with_reducible exact LeO.none _)
   | (with_reducible refine LeO.ite ?_ ?_)
   | (with_reducible refine LeO.bind ?_ (fun _ => ?_))
   | exact ih0 _ _ _
   | exact LeO.none _
   | refine LeO.ite ?_ ?_
   | refine LeO.bind ?_ (fun _ => ?_)
theorem chanceryref1_Value.mono : ∀ a0 k, LeO (chanceryref1_Value.f k a0) (chanceryref1_Value.f (k + 1) a0) := by
 intro a0 k
 have ih0 := chanceryref1_Value.mono_l k
 unfold chanceryref1_Value.f
 repeat' first
   | (with_reducible exact ih0 _ _ _)
   | (with_reducible exact LeO.refl _)
   | (with_reducible exact LeO.none _)
   | (with_reducible refine LeO.ite ?_ ?_)
   | (with_reducible refine LeO.bind ?_ (fun _ => ?_))
   | exact ih0 _ _ _
   | exact LeO.none _
   | refine LeO.ite ?_ ?_
   | refine LeO.bind ?_ (fun _ => ?_)
set_option maxHeartbeats 8000000 in
set_option maxRecDepth 100000 in
theorem chanceryref1_Value.calls (k : Nat) (a0 : ByteArray) (r : Bool) (w : World) (h : chanceryref1_Value.f k a0 = some r) :
  Calls Try.prog 63 #[.string a0] w fun e w' => e = .returned (.bool r) ∧ Drawn0 w w' := by
 have H : (chanceryref1_Value.l0 k a0 (a0.size : Int) 0) = some r := h
 clear h
 have H' := Aside0.mk H
 clear H
 go_enter Try.func63, Try.ntmps63
 go_wp2
 go_loopg [6] k (fun kq v6 w' => ∃ (x6_1 : Int), v6 = .int .i64 x6_1 ∧ Aside0 (chanceryref1_Value.l0 kq a0 (a0.size : Int) x6_1 = some r) ∧ Aside0 (kq ≤ k) ∧ Drawn0 w w')
 case atStart => exact ⟨(0), (by first | rfl | (simp; done) | (simp [*]; done)), H', ⟨Nat.le_refl _⟩, by repeat (first | exact Drawn0.refl _ | apply Drawn0.step)⟩
 case round =>
  clear H'
  obtain ⟨x6_1, rfl, HA, HK1, ⟨m1, rfl⟩⟩ := hrel
  cases gk with
  | zero => exact absurd HA.out (by simp [chanceryref1_Value.l0])
  | succ k1 =>
   have H := HA.out
   clear HA
   simp only [chanceryref1_Value.l0] at H
   by_cases c2 : x6_1 < (a0.size : Int)
   ·rw [if_pos c2] at H
    have c2b0 : decide (x6_1 < (a0.size : Int)) = true := decide_eq_true c2
    clear c2
    by_cases c3 : 0 ≤ x6_1
    ·rw [if_pos c3] at H
     have c3b0 : decide (0 ≤ x6_1) = true := decide_eq_true c3
     clear c3
     by_cases c4 : x6_1 < (a0.size : Int)
     ·rw [if_pos c4] at H
      have c4b0 : decide (x6_1 < (a0.size : Int)) = true := decide_eq_true c4
      clear c4
      by_cases c6 : (bt a0 x6_1) < 32
      ·rw [if_pos c6] at H
       have c6b0 : decide ((bt a0 x6_1) < 32) = true := decide_eq_true c6
       clear c6
       obtain rfl := Option.some.inj H
       have p5 : 0 ≤ (x6_1 : Int) := of_decide_eq_true (by assumption)
       have q5 : x6_1 < (a0.size : Int) := of_decide_eq_true (by assumption)
       have hx5 := bt_at a0 x6_1
       replace p5 := eq_true p5
       replace q5 := eq_true q5
       go_wp2
       go_ret
       exact ⟨by first | rfl | (simp; done) | (simp [*]; done), by repeat (first | exact Drawn0.refl _ | apply Drawn0.step)⟩
      ·rw [if_neg c6] at H
       have c6b0 : decide ((bt a0 x6_1) < 32) = false := decide_eq_false c6
       clear c6
       by_cases c8 : (bt a0 x6_1) > 126
       ·rw [if_pos c8] at H
        have c8b0 : decide (126 < (bt a0 x6_1)) = true := decide_eq_true c8
        clear c8
        obtain rfl := Option.some.inj H
        have p5 : 0 ≤ (x6_1 : Int) := of_decide_eq_true (by assumption)
        have q5 : x6_1 < (a0.size : Int) := of_decide_eq_true (by assumption)
        have hx5 := bt_at a0 x6_1
        replace p5 := eq_true p5
        replace q5 := eq_true q5
        have p7 : 0 ≤ (x6_1 : Int) := of_decide_eq_true (by assumption)
        have q7 : x6_1 < (a0.size : Int) := of_decide_eq_true (by assumption)
        have hx7 := bt_at a0 x6_1
        replace p7 := eq_true p7
        replace q7 := eq_true q7
        go_wp2
        go_ret
        exact ⟨by first | rfl | (simp; done) | (simp [*]; done), by repeat (first | exact Drawn0.refl _ | apply Drawn0.step)⟩
       ·rw [if_neg c8] at H
        have c8b0 : decide (126 < (bt a0 x6_1)) = false := decide_eq_false c8
        clear c8
        have H' := Aside0.mk H
        clear H
        have p5 : 0 ≤ (x6_1 : Int) := of_decide_eq_true (by assumption)
        have q5 : x6_1 < (a0.size : Int) := of_decide_eq_true (by assumption)
        have hx5 := bt_at a0 x6_1
        replace p5 := eq_true p5
        replace q5 := eq_true q5
        have p7 : 0 ≤ (x6_1 : Int) := of_decide_eq_true (by assumption)
        have q7 : x6_1 < (a0.size : Int) := of_decide_eq_true (by assumption)
        have hx7 := bt_at a0 x6_1
        replace p7 := eq_true p7
        replace q7 := eq_true q7
        go_wp2
        go_roundg k1
        case measure => have := HK1.out; omega
        case rel => exact ⟨(wrap64 (x6_1 + 1)), (by first | rfl | (simp; done) | (simp [*]; done)), H', ⟨by have := HK1.out; omega⟩, by repeat (first | exact Drawn0.refl _ | apply Drawn0.step)⟩
     ·rw [if_neg c4] at H
      exact absurd H (by simp)
    ·rw [if_neg c3] at H
     exact absurd H (by simp)
   ·rw [if_neg c2] at H
    have c2b0 : decide (x6_1 < (a0.size : Int)) = false := decide_eq_false c2
    clear c2
    by_cases c9 : (a0.size : Int) ≥ 1
    ·rw [if_pos c9] at H
     have c9b0 : decide (1 ≤ (a0.size : Int)) = true := decide_eq_true c9
     have c9b1 : decide (1 ≤ a0.size) = true := decide_eq_true (by omega)
     clear c9
     obtain rfl := Option.some.inj H
     go_wp2
     go_ret
     exact ⟨by first | rfl | (simp; done) | (simp [*]; done), by repeat (first | exact Drawn0.refl _ | apply Drawn0.step)⟩
    ·rw [if_neg c9] at H
     have c9b0 : decide (1 ≤ (a0.size : Int)) = false := decide_eq_false c9
     have c9b1 : decide (1 ≤ a0.size) = false := decide_eq_false (by omega)
     clear c9
     obtain rfl := Option.some.inj H
     go_wp2
     go_ret
     exact ⟨by first | rfl | (simp; done) | (simp [*]; done), by repeat (first | exact Drawn0.refl _ | apply Drawn0.step)⟩
mutual
def attr_Name.j0 : Nat → ByteArray → Bool → Option (Bool)
 | 0, _, _ => none
 | k + 1, x0, x21 => if x21 = true then (some false) else (attr_Name.l0 k x0 (x0.size : Int) 0)
def attr_Name.l0 : Nat → ByteArray → Int → Int → Option (Bool)
 | 0, _, _, _ => none
 | k + 1, x0, x23, x24 => if x24 < x23 then (if 0 ≤ x24 then (if x24 < (x0.size : Int) then (if (bt x0 x24) < 97 then (if (bt x0 x24) < 48 then (if (bt x0 x24) = 46 then (attr_Name.l0 k x0 x23 (wrap64 (x24 + 1))) else (if (bt x0 x24) = 45 then (attr_Name.l0 k x0 x23 (wrap64 (x24 + 1))) else (some false))) else (if (bt x0 x24) > 57 then (if (bt x0 x24) = 46 then (attr_Name.l0 k x0 x23 (wrap64 (x24 + 1))) else (if (bt x0 x24) = 45 then (attr_Name.l0 k x0 x23 (wrap64 (x24 + 1))) else (some false))) else (attr_Name.l0 k x0 x23 (wrap64 (x24 + 1))))) else (if (bt x0 x24) > 122 then (if (bt x0 x24) < 48 then (if (bt x0 x24) = 46 then (attr_Name.l0 k x0 x23 (wrap64 (x24 + 1))) else (if (bt x0 x24) = 45 then (attr_Name.l0 k x0 x23 (wrap64 (x24 + 1))) else (some false))) else (if (bt x0 x24) > 57 then (if (bt x0 x24) = 46 then (attr_Name.l0 k x0 x23 (wrap64 (x24 + 1))) else (if (bt x0 x24) = 45 then (attr_Name.l0 k x0 x23 (wrap64 (x24 + 1))) else (some false))) else (attr_Name.l0 k x0 x23 (wrap64 (x24 + 1))))) else (attr_Name.l0 k x0 x23 (wrap64 (x24 + 1))))) else (none)) else (none)) else (some true)
end
def attr_Name.f (k : Nat) (a0 : ByteArray) : Option (Bool) := if a0.toList = ([] : List UInt8) then (attr_Name.j0 k a0 true) else (if (a0.size : Int) > 24 then (attr_Name.j0 k a0 true) else (if 0 < (a0.size : Int) then (if (bt a0 0) < 97 then (attr_Name.j0 k a0 true) else (attr_Name.j0 k a0 (decide ((bt a0 0) > 122)))) else (none)))
theorem attr_Name.mono_l : ∀ k, (∀ y0 y1, LeO (attr_Name.j0 k y0 y1) (attr_Name.j0 (k + 1) y0 y1)) ∧ (∀ y0 y1 y2, LeO (attr_Name.l0 k y0 y1 y2) (attr_Name.l0 (k + 1) y0 y1 y2))
 | 0 => ⟨fun _ _ r h => by simp [attr_Name.j0] at h, fun _ _ _ r h => by simp [attr_Name.l0] at h⟩
 | k + 1 => by
  obtain ⟨ih0, ih1⟩ := attr_Name.mono_l k
  refine ⟨?_, ?_⟩
  ·intro y0 y1
   unfold attr_Name.j0
   repeat' first
   | (with_reducible exact ih0 _ _)
   | (with_reducible exact ih1 _ _ _)
   | (with_reducible exact LeO.refl _)
   | (with_reducible exact LeO.none _)
   | (with_reducible refine LeO.ite ?_ ?_)
   | (with_reducible refine LeO.bind ?_ (fun _ => ?_))
   | exact ih0 _ _
   | exact ih1 _ _ _
   | exact LeO.none _
   | refine LeO.ite ?_ ?_
   | refine LeO.bind ?_ (fun _ => ?_)
  ·intro y0 y1 y2
   unfold attr_Name.l0
   repeat' first
   | (with_reducible exact ih0 _ _)
   | (with_reducible exact ih1 _ _ _)
   | (with_reducible exact LeO.refl _)
   | (with_reducible exact LeO.none _)
   | (with_reducible refine LeO.ite ?_ ?_)
   | (with_reducible refine LeO.bind ?_ (fun _ => ?_))
   | exact ih0 _ _
   | exact ih1 _ _ _
   | exact LeO.none _
   | refine LeO.ite ?_ ?_
   | refine LeO.bind ?_ (fun _ => ?_)
theorem attr_Name.mono : ∀ a0 k, LeO (attr_Name.f k a0) (attr_Name.f (k + 1) a0) := by
 intro a0 k
 obtain ⟨ih0, ih1⟩ := attr_Name.mono_l k
 unfold attr_Name.f
 repeat' first
   | (with_reducible exact ih0 _ _)
   | (with_reducible exact ih1 _ _ _)
   | (with_reducible exact LeO.refl _)
   | (with_reducible exact LeO.none _)
   | (with_reducible refine LeO.ite ?_ ?_)
   | (with_reducible refine LeO.bind ?_ (fun _ => ?_))
   | exact ih0 _ _
   | exact ih1 _ _ _
   | exact LeO.none _
   | refine LeO.ite ?_ ?_
   | refine LeO.bind ?_ (fun _ => ?_)
set_option maxHeartbeats 8000000 in
set_option maxRecDepth 100000 in
theorem attr_Name.calls (k : Nat) (a0 : ByteArray) (r : Bool) (w : World) (h : attr_Name.f k a0 = some r) :
  Calls Try.prog 120 #[.string a0] w fun e w' => e = .returned (.bool r) ∧ Drawn0 w w' := by
 have H : (if a0.toList = ([] : List UInt8) then (attr_Name.j0 k a0 true) else (if (a0.size : Int) > 24 then (attr_Name.j0 k a0 true) else (if 0 < (a0.size : Int) then (if (bt a0 0) < 97 then (attr_Name.j0 k a0 true) else (attr_Name.j0 k a0 (decide ((bt a0 0) > 122)))) else (none)))) = some r := h
 clear h
 have HC2 := Aside0.mk H
 clear H
 go_enter Try.func120, Try.ntmps120
 go_upto_region 1 with (fail)
 go_cut [21] (fun v21 wc => ∃ (kq : Nat) (x21_1 : Bool), v21 = .bool x21_1 ∧ Aside0 (attr_Name.j0 kq a0 x21_1 = some r) ∧ Aside0 (kq ≤ k) ∧ Drawn0 w wc)
 case first =>
  have H := HC2.out
  clear HC2
  by_cases c3 : a0.toList = ([] : List UInt8)
  ·rw [if_pos c3] at H
   have c3b0 : (a0.toList == ([] : List UInt8)) = true := beq_iff_eq.mpr c3
   have c3b1 : (a0.toList != ([] : List UInt8)) = false := bne_eq_false_iff_eq.mpr c3
   clear c3
   (first | rw [c3b0] | (simp only [i64_w, i32_w]; rw [c3b0]) | skip)
   have H' := Aside0.mk H
   clear H
   go_wp2
   go_meet
   case rel => exact ⟨_, (true), (by first | rfl | (simp; done) | (simp [*]; done)), H', ⟨by first | omega | exact Nat.le_refl _⟩, by repeat (first | exact Drawn0.refl _ | apply Drawn0.step)⟩
  ·rw [if_neg c3] at H
   have c3b0 : (a0.toList == ([] : List UInt8)) = false := beq_eq_false_iff_ne.mpr c3
   have c3b1 : (a0.toList != ([] : List UInt8)) = true := bne_iff_ne.mpr c3
   (first | rw [c3b0] | (simp only [i64_w, i32_w]; rw [c3b0]) | skip)
   by_cases c4 : (a0.size : Int) > 24
   ·rw [if_pos c4] at H
    have c4b0 : decide (24 < (a0.size : Int)) = true := decide_eq_true c4
    have c4b1 : decide (24 < a0.size) = true := decide_eq_true (by omega)
    clear c4
    have H' := Aside0.mk H
    clear H
    go_wp2
    go_meet
    case rel => exact ⟨_, (true), (by first | rfl | (simp; done) | (simp [*]; done)), H', ⟨by first | omega | exact Nat.le_refl _⟩, by repeat (first | exact Drawn0.refl _ | apply Drawn0.step)⟩
   ·rw [if_neg c4] at H
    have c4b0 : decide (24 < (a0.size : Int)) = false := decide_eq_false c4
    have c4b1 : decide (24 < a0.size) = false := decide_eq_false (by omega)
    clear c4
    by_cases c5 : 0 < (a0.size : Int)
    ·rw [if_pos c5] at H
     have c5b0 : decide (0 < (a0.size : Int)) = true := decide_eq_true c5
     have c5b1 : decide (0 < a0.size) = true := decide_eq_true (by omega)
     clear c5
     by_cases c7 : (bt a0 0) < 97
     ·rw [if_pos c7] at H
      have c7b0 : decide ((bt a0 0) < 97) = true := decide_eq_true c7
      clear c7
      have H' := Aside0.mk H
      clear H
      have p6 : 0 ≤ (0 : Int) := (by omega)
      have q6 : 0 < a0.size := (by have : (0 : Int) < (a0.size : Int) := of_decide_eq_true (by assumption); omega)
      have hx6 : ∀ h : 0 < a0.size, ((a0[0]'h).toNat : Int) = bt a0 0 := bt_at a0 0
      clear p6
      have qi6 : (0 < (a0.size : Int)) = True := eq_true (of_decide_eq_true (by assumption))
      replace q6 := eq_true q6
      go_wp2
      go_meet
      case rel => exact ⟨_, (true), (by first | rfl | (simp; done) | (simp [*]; done)), H', ⟨by first | omega | exact Nat.le_refl _⟩, by repeat (first | exact Drawn0.refl _ | apply Drawn0.step)⟩
     ·rw [if_neg c7] at H
      have c7b0 : decide ((bt a0 0) < 97) = false := decide_eq_false c7
      clear c7
      have H' := Aside0.mk H
      clear H
      have p6 : 0 ≤ (0 : Int) := (by omega)
      have q6 : 0 < a0.size := (by have : (0 : Int) < (a0.size : Int) := of_decide_eq_true (by assumption); omega)
      have hx6 : ∀ h : 0 < a0.size, ((a0[0]'h).toNat : Int) = bt a0 0 := bt_at a0 0
      clear p6
      have qi6 : (0 < (a0.size : Int)) = True := eq_true (of_decide_eq_true (by assumption))
      replace q6 := eq_true q6
      have p8 : 0 ≤ (0 : Int) := (by omega)
      have q8 : 0 < a0.size := (by have : (0 : Int) < (a0.size : Int) := of_decide_eq_true (by assumption); omega)
      have hx8 : ∀ h : 0 < a0.size, ((a0[0]'h).toNat : Int) = bt a0 0 := bt_at a0 0
      clear p8
      have qi8 : (0 < (a0.size : Int)) = True := eq_true (of_decide_eq_true (by assumption))
      replace q8 := eq_true q8
      go_wp2
      go_meet
      case rel => exact ⟨_, (decide ((bt a0 0) > 122)), (by first | rfl | (simp; done) | (simp [*]; done)), H', ⟨by first | omega | exact Nat.le_refl _⟩, by repeat (first | exact Drawn0.refl _ | apply Drawn0.step)⟩
    ·rw [if_neg c5] at H
     exact absurd H (by simp)
 case rest =>
  clear HC2
  try clear c1
  try clear p2
  try clear c3
  try clear c3b0
  try clear c3b1
  try clear c4
  try clear c4b0
  try clear c4b1
  try clear c5
  try clear c5b0
  try clear c5b1
  try clear p6
  try clear q6
  try clear hx6
  try clear qi6
  try clear c7
  try clear c7b0
  try clear p8
  try clear q8
  try clear hx8
  try clear qi8
  try clear p6
  try clear p8
  try clear q6
  try clear q8
  obtain ⟨kq, x21_1, rfl, HA, HJ1, ⟨mc1, rfl⟩⟩ := hcut
  cases kq with
  | zero => exact absurd HA.out (by simp [attr_Name.j0])
  | succ kj1 =>
   have H := HA.out
   clear HA
   simp only [attr_Name.j0] at H
   by_cases c9 : x21_1 = true
   ·subst c9
    have H1 : (some false) = some r := by rw [if_pos rfl] at H; exact H
    clear H
    have H := H1
    clear H1
    obtain rfl := Option.some.inj H
    go_wp2
    go_ret
    exact ⟨by first | rfl | (simp; done) | (simp [*]; done), by repeat (first | exact Drawn0.refl _ | apply Drawn0.step)⟩
   ·replace c9 := Bool.eq_false_iff.mpr c9
    subst c9
    have H1 : (attr_Name.l0 kj1 a0 (a0.size : Int) 0) = some r := by rw [if_neg (show ¬ (false = true) by decide)] at H; exact H
    clear H
    have H := H1
    clear H1
    have H' := Aside0.mk H
    clear H
    go_wp2
    go_loopg [24] kj1 (fun kq v24 w' => ∃ (x24_2 : Int), v24 = .int .i64 x24_2 ∧ Aside0 (attr_Name.l0 kq a0 (a0.size : Int) x24_2 = some r) ∧ Aside0 (kq ≤ kj1) ∧ Drawn0 w w')
    case atStart => exact ⟨(0), (by first | rfl | (simp; done) | (simp [*]; done)), H', ⟨Nat.le_refl _⟩, by repeat (first | exact Drawn0.refl _ | apply Drawn0.step)⟩
    case round =>
     clear H'
     try clear c1
     try clear p2
     try clear c3
     try clear c3b0
     try clear c3b1
     try clear c4
     try clear c4b0
     try clear c4b1
     try clear c5
     try clear c5b0
     try clear c5b1
     try clear p6
     try clear q6
     try clear hx6
     try clear qi6
     try clear c7
     try clear c7b0
     try clear p8
     try clear q8
     try clear hx8
     try clear qi8
     try clear c9
     try clear p2
     try clear p6
     try clear p8
     try clear q6
     try clear q8
     obtain ⟨x24_2, rfl, HA, HK2, ⟨m2, rfl⟩⟩ := hrel
     cases gk with
     | zero => exact absurd HA.out (by simp [attr_Name.l0])
     | succ k2 =>
      have H := HA.out
      clear HA
      simp only [attr_Name.l0] at H
      by_cases c10 : x24_2 < (a0.size : Int)
      ·rw [if_pos c10] at H
       have c10b0 : decide (x24_2 < (a0.size : Int)) = true := decide_eq_true c10
       clear c10
       by_cases c11 : 0 ≤ x24_2
       ·rw [if_pos c11] at H
        have c11b0 : decide (0 ≤ x24_2) = true := decide_eq_true c11
        clear c11
        by_cases c12 : x24_2 < (a0.size : Int)
        ·rw [if_pos c12] at H
         have c12b0 : decide (x24_2 < (a0.size : Int)) = true := decide_eq_true c12
         clear c12
         by_cases c14 : (bt a0 x24_2) < 97
         ·rw [if_pos c14] at H
          have c14b0 : decide ((bt a0 x24_2) < 97) = true := decide_eq_true c14
          clear c14
          by_cases c15 : (bt a0 x24_2) < 48
          ·rw [if_pos c15] at H
           have c15b0 : decide ((bt a0 x24_2) < 48) = true := decide_eq_true c15
           clear c15
           by_cases c16 : (bt a0 x24_2) = 46
           ·rw [if_pos c16] at H
            have c16b0 : ((bt a0 x24_2) == 46) = true := beq_iff_eq.mpr c16
            have c16b1 : ((bt a0 x24_2) != 46) = false := bne_eq_false_iff_eq.mpr c16
            clear c16
            have H' := Aside0.mk H
            clear H
            have p13 : 0 ≤ (x24_2 : Int) := of_decide_eq_true (by assumption)
            have q13 : x24_2 < (a0.size : Int) := of_decide_eq_true (by assumption)
            have hx13 := bt_at a0 x24_2
            replace p13 := eq_true p13
            replace q13 := eq_true q13
            go_wp2
            go_roundg k2
            case measure => have := HJ1.out; have := HK2.out; omega
            case rel => exact ⟨(wrap64 (x24_2 + 1)), (by first | rfl | (simp; done) | (simp [*]; done)), H', ⟨by have := HJ1.out; have := HK2.out; omega⟩, by repeat (first | exact Drawn0.refl _ | apply Drawn0.step)⟩
           ·rw [if_neg c16] at H
            have c16b0 : ((bt a0 x24_2) == 46) = false := beq_eq_false_iff_ne.mpr c16
            have c16b1 : ((bt a0 x24_2) != 46) = true := bne_iff_ne.mpr c16
            by_cases c17 : (bt a0 x24_2) = 45
            ·rw [if_pos c17] at H
             have c17b0 : ((bt a0 x24_2) == 45) = true := beq_iff_eq.mpr c17
             have c17b1 : ((bt a0 x24_2) != 45) = false := bne_eq_false_iff_eq.mpr c17
             clear c17
             have H' := Aside0.mk H
             clear H
             have p13 : 0 ≤ (x24_2 : Int) := of_decide_eq_true (by assumption)
             have q13 : x24_2 < (a0.size : Int) := of_decide_eq_true (by assumption)
             have hx13 := bt_at a0 x24_2
             replace p13 := eq_true p13
             replace q13 := eq_true q13
             go_wp2
             go_roundg k2
             case measure => have := HJ1.out; have := HK2.out; omega
             case rel => exact ⟨(wrap64 (x24_2 + 1)), (by first | rfl | (simp; done) | (simp [*]; done)), H', ⟨by have := HJ1.out; have := HK2.out; omega⟩, by repeat (first | exact Drawn0.refl _ | apply Drawn0.step)⟩
            ·rw [if_neg c17] at H
             have c17b0 : ((bt a0 x24_2) == 45) = false := beq_eq_false_iff_ne.mpr c17
             have c17b1 : ((bt a0 x24_2) != 45) = true := bne_iff_ne.mpr c17
             obtain rfl := Option.some.inj H
             have p13 : 0 ≤ (x24_2 : Int) := of_decide_eq_true (by assumption)
             have q13 : x24_2 < (a0.size : Int) := of_decide_eq_true (by assumption)
             have hx13 := bt_at a0 x24_2
             replace p13 := eq_true p13
             replace q13 := eq_true q13
             go_wp2
             go_ret
             exact ⟨by first | rfl | (simp; done) | (simp [*]; done), by repeat (first | exact Drawn0.refl _ | apply Drawn0.step)⟩
          ·rw [if_neg c15] at H
           have c15b0 : decide ((bt a0 x24_2) < 48) = false := decide_eq_false c15
           clear c15
           by_cases c18 : (bt a0 x24_2) > 57
           ·rw [if_pos c18] at H
            have c18b0 : decide (57 < (bt a0 x24_2)) = true := decide_eq_true c18
            clear c18
            by_cases c19 : (bt a0 x24_2) = 46
            ·rw [if_pos c19] at H
             have c19b0 : ((bt a0 x24_2) == 46) = true := beq_iff_eq.mpr c19
             have c19b1 : ((bt a0 x24_2) != 46) = false := bne_eq_false_iff_eq.mpr c19
             clear c19
             have H' := Aside0.mk H
             clear H
             have p13 : 0 ≤ (x24_2 : Int) := of_decide_eq_true (by assumption)
             have q13 : x24_2 < (a0.size : Int) := of_decide_eq_true (by assumption)
             have hx13 := bt_at a0 x24_2
             replace p13 := eq_true p13
             replace q13 := eq_true q13
             go_wp2
             go_roundg k2
             case measure => have := HJ1.out; have := HK2.out; omega
             case rel => exact ⟨(wrap64 (x24_2 + 1)), (by first | rfl | (simp; done) | (simp [*]; done)), H', ⟨by have := HJ1.out; have := HK2.out; omega⟩, by repeat (first | exact Drawn0.refl _ | apply Drawn0.step)⟩
            ·rw [if_neg c19] at H
             have c19b0 : ((bt a0 x24_2) == 46) = false := beq_eq_false_iff_ne.mpr c19
             have c19b1 : ((bt a0 x24_2) != 46) = true := bne_iff_ne.mpr c19
             by_cases c20 : (bt a0 x24_2) = 45
             ·rw [if_pos c20] at H
              have c20b0 : ((bt a0 x24_2) == 45) = true := beq_iff_eq.mpr c20
              have c20b1 : ((bt a0 x24_2) != 45) = false := bne_eq_false_iff_eq.mpr c20
              clear c20
              have H' := Aside0.mk H
              clear H
              have p13 : 0 ≤ (x24_2 : Int) := of_decide_eq_true (by assumption)
              have q13 : x24_2 < (a0.size : Int) := of_decide_eq_true (by assumption)
              have hx13 := bt_at a0 x24_2
              replace p13 := eq_true p13
              replace q13 := eq_true q13
              go_wp2
              go_roundg k2
              case measure => have := HJ1.out; have := HK2.out; omega
              case rel => exact ⟨(wrap64 (x24_2 + 1)), (by first | rfl | (simp; done) | (simp [*]; done)), H', ⟨by have := HJ1.out; have := HK2.out; omega⟩, by repeat (first | exact Drawn0.refl _ | apply Drawn0.step)⟩
             ·rw [if_neg c20] at H
              have c20b0 : ((bt a0 x24_2) == 45) = false := beq_eq_false_iff_ne.mpr c20
              have c20b1 : ((bt a0 x24_2) != 45) = true := bne_iff_ne.mpr c20
              obtain rfl := Option.some.inj H
              have p13 : 0 ≤ (x24_2 : Int) := of_decide_eq_true (by assumption)
              have q13 : x24_2 < (a0.size : Int) := of_decide_eq_true (by assumption)
              have hx13 := bt_at a0 x24_2
              replace p13 := eq_true p13
              replace q13 := eq_true q13
              go_wp2
              go_ret
              exact ⟨by first | rfl | (simp; done) | (simp [*]; done), by repeat (first | exact Drawn0.refl _ | apply Drawn0.step)⟩
           ·rw [if_neg c18] at H
            have c18b0 : decide (57 < (bt a0 x24_2)) = false := decide_eq_false c18
            clear c18
            have H' := Aside0.mk H
            clear H
            have p13 : 0 ≤ (x24_2 : Int) := of_decide_eq_true (by assumption)
            have q13 : x24_2 < (a0.size : Int) := of_decide_eq_true (by assumption)
            have hx13 := bt_at a0 x24_2
            replace p13 := eq_true p13
            replace q13 := eq_true q13
            go_wp2
            go_roundg k2
            case measure => have := HJ1.out; have := HK2.out; omega
            case rel => exact ⟨(wrap64 (x24_2 + 1)), (by first | rfl | (simp; done) | (simp [*]; done)), H', ⟨by have := HJ1.out; have := HK2.out; omega⟩, by repeat (first | exact Drawn0.refl _ | apply Drawn0.step)⟩
         ·rw [if_neg c14] at H
          have c14b0 : decide ((bt a0 x24_2) < 97) = false := decide_eq_false c14
          clear c14
          by_cases c21 : (bt a0 x24_2) > 122
          ·rw [if_pos c21] at H
           have c21b0 : decide (122 < (bt a0 x24_2)) = true := decide_eq_true c21
           clear c21
           by_cases c22 : (bt a0 x24_2) < 48
           ·rw [if_pos c22] at H
            have c22b0 : decide ((bt a0 x24_2) < 48) = true := decide_eq_true c22
            clear c22
            by_cases c23 : (bt a0 x24_2) = 46
            ·rw [if_pos c23] at H
             have c23b0 : ((bt a0 x24_2) == 46) = true := beq_iff_eq.mpr c23
             have c23b1 : ((bt a0 x24_2) != 46) = false := bne_eq_false_iff_eq.mpr c23
             clear c23
             have H' := Aside0.mk H
             clear H
             have p13 : 0 ≤ (x24_2 : Int) := of_decide_eq_true (by assumption)
             have q13 : x24_2 < (a0.size : Int) := of_decide_eq_true (by assumption)
             have hx13 := bt_at a0 x24_2
             replace p13 := eq_true p13
             replace q13 := eq_true q13
             go_wp2
             go_roundg k2
             case measure => have := HJ1.out; have := HK2.out; omega
             case rel => exact ⟨(wrap64 (x24_2 + 1)), (by first | rfl | (simp; done) | (simp [*]; done)), H', ⟨by have := HJ1.out; have := HK2.out; omega⟩, by repeat (first | exact Drawn0.refl _ | apply Drawn0.step)⟩
            ·rw [if_neg c23] at H
             have c23b0 : ((bt a0 x24_2) == 46) = false := beq_eq_false_iff_ne.mpr c23
             have c23b1 : ((bt a0 x24_2) != 46) = true := bne_iff_ne.mpr c23
             by_cases c24 : (bt a0 x24_2) = 45
             ·rw [if_pos c24] at H
              have c24b0 : ((bt a0 x24_2) == 45) = true := beq_iff_eq.mpr c24
              have c24b1 : ((bt a0 x24_2) != 45) = false := bne_eq_false_iff_eq.mpr c24
              clear c24
              have H' := Aside0.mk H
              clear H
              have p13 : 0 ≤ (x24_2 : Int) := of_decide_eq_true (by assumption)
              have q13 : x24_2 < (a0.size : Int) := of_decide_eq_true (by assumption)
              have hx13 := bt_at a0 x24_2
              replace p13 := eq_true p13
              replace q13 := eq_true q13
              go_wp2
              go_roundg k2
              case measure => have := HJ1.out; have := HK2.out; omega
              case rel => exact ⟨(wrap64 (x24_2 + 1)), (by first | rfl | (simp; done) | (simp [*]; done)), H', ⟨by have := HJ1.out; have := HK2.out; omega⟩, by repeat (first | exact Drawn0.refl _ | apply Drawn0.step)⟩
             ·rw [if_neg c24] at H
              have c24b0 : ((bt a0 x24_2) == 45) = false := beq_eq_false_iff_ne.mpr c24
              have c24b1 : ((bt a0 x24_2) != 45) = true := bne_iff_ne.mpr c24
              obtain rfl := Option.some.inj H
              have p13 : 0 ≤ (x24_2 : Int) := of_decide_eq_true (by assumption)
              have q13 : x24_2 < (a0.size : Int) := of_decide_eq_true (by assumption)
              have hx13 := bt_at a0 x24_2
              replace p13 := eq_true p13
              replace q13 := eq_true q13
              go_wp2
              go_ret
              exact ⟨by first | rfl | (simp; done) | (simp [*]; done), by repeat (first | exact Drawn0.refl _ | apply Drawn0.step)⟩
           ·rw [if_neg c22] at H
            have c22b0 : decide ((bt a0 x24_2) < 48) = false := decide_eq_false c22
            clear c22
            by_cases c25 : (bt a0 x24_2) > 57
            ·rw [if_pos c25] at H
             have c25b0 : decide (57 < (bt a0 x24_2)) = true := decide_eq_true c25
             clear c25
             by_cases c26 : (bt a0 x24_2) = 46
             ·rw [if_pos c26] at H
              have c26b0 : ((bt a0 x24_2) == 46) = true := beq_iff_eq.mpr c26
              have c26b1 : ((bt a0 x24_2) != 46) = false := bne_eq_false_iff_eq.mpr c26
              clear c26
              have H' := Aside0.mk H
              clear H
              have p13 : 0 ≤ (x24_2 : Int) := of_decide_eq_true (by assumption)
              have q13 : x24_2 < (a0.size : Int) := of_decide_eq_true (by assumption)
              have hx13 := bt_at a0 x24_2
              replace p13 := eq_true p13
              replace q13 := eq_true q13
              go_wp2
              go_roundg k2
              case measure => have := HJ1.out; have := HK2.out; omega
              case rel => exact ⟨(wrap64 (x24_2 + 1)), (by first | rfl | (simp; done) | (simp [*]; done)), H', ⟨by have := HJ1.out; have := HK2.out; omega⟩, by repeat (first | exact Drawn0.refl _ | apply Drawn0.step)⟩
             ·rw [if_neg c26] at H
              have c26b0 : ((bt a0 x24_2) == 46) = false := beq_eq_false_iff_ne.mpr c26
              have c26b1 : ((bt a0 x24_2) != 46) = true := bne_iff_ne.mpr c26
              by_cases c27 : (bt a0 x24_2) = 45
              ·rw [if_pos c27] at H
               have c27b0 : ((bt a0 x24_2) == 45) = true := beq_iff_eq.mpr c27
               have c27b1 : ((bt a0 x24_2) != 45) = false := bne_eq_false_iff_eq.mpr c27
               clear c27
               have H' := Aside0.mk H
               clear H
               have p13 : 0 ≤ (x24_2 : Int) := of_decide_eq_true (by assumption)
               have q13 : x24_2 < (a0.size : Int) := of_decide_eq_true (by assumption)
               have hx13 := bt_at a0 x24_2
               replace p13 := eq_true p13
               replace q13 := eq_true q13
               go_wp2
               go_roundg k2
               case measure => have := HJ1.out; have := HK2.out; omega
               case rel => exact ⟨(wrap64 (x24_2 + 1)), (by first | rfl | (simp; done) | (simp [*]; done)), H', ⟨by have := HJ1.out; have := HK2.out; omega⟩, by repeat (first | exact Drawn0.refl _ | apply Drawn0.step)⟩
              ·rw [if_neg c27] at H
               have c27b0 : ((bt a0 x24_2) == 45) = false := beq_eq_false_iff_ne.mpr c27
               have c27b1 : ((bt a0 x24_2) != 45) = true := bne_iff_ne.mpr c27
               obtain rfl := Option.some.inj H
               have p13 : 0 ≤ (x24_2 : Int) := of_decide_eq_true (by assumption)
               have q13 : x24_2 < (a0.size : Int) := of_decide_eq_true (by assumption)
               have hx13 := bt_at a0 x24_2
               replace p13 := eq_true p13
               replace q13 := eq_true q13
               go_wp2
               go_ret
               exact ⟨by first | rfl | (simp; done) | (simp [*]; done), by repeat (first | exact Drawn0.refl _ | apply Drawn0.step)⟩
            ·rw [if_neg c25] at H
             have c25b0 : decide (57 < (bt a0 x24_2)) = false := decide_eq_false c25
             clear c25
             have H' := Aside0.mk H
             clear H
             have p13 : 0 ≤ (x24_2 : Int) := of_decide_eq_true (by assumption)
             have q13 : x24_2 < (a0.size : Int) := of_decide_eq_true (by assumption)
             have hx13 := bt_at a0 x24_2
             replace p13 := eq_true p13
             replace q13 := eq_true q13
             go_wp2
             go_roundg k2
             case measure => have := HJ1.out; have := HK2.out; omega
             case rel => exact ⟨(wrap64 (x24_2 + 1)), (by first | rfl | (simp; done) | (simp [*]; done)), H', ⟨by have := HJ1.out; have := HK2.out; omega⟩, by repeat (first | exact Drawn0.refl _ | apply Drawn0.step)⟩
          ·rw [if_neg c21] at H
           have c21b0 : decide (122 < (bt a0 x24_2)) = false := decide_eq_false c21
           clear c21
           have H' := Aside0.mk H
           clear H
           have p13 : 0 ≤ (x24_2 : Int) := of_decide_eq_true (by assumption)
           have q13 : x24_2 < (a0.size : Int) := of_decide_eq_true (by assumption)
           have hx13 := bt_at a0 x24_2
           replace p13 := eq_true p13
           replace q13 := eq_true q13
           go_wp2
           go_roundg k2
           case measure => have := HJ1.out; have := HK2.out; omega
           case rel => exact ⟨(wrap64 (x24_2 + 1)), (by first | rfl | (simp; done) | (simp [*]; done)), H', ⟨by have := HJ1.out; have := HK2.out; omega⟩, by repeat (first | exact Drawn0.refl _ | apply Drawn0.step)⟩
        ·rw [if_neg c12] at H
         exact absurd H (by simp)
       ·rw [if_neg c11] at H
        exact absurd H (by simp)
      ·rw [if_neg c10] at H
       have c10b0 : decide (x24_2 < (a0.size : Int)) = false := decide_eq_false c10
       clear c10
       obtain rfl := Option.some.inj H
       go_wp2
       go_ret
       exact ⟨by first | rfl | (simp; done) | (simp [*]; done), by repeat (first | exact Drawn0.refl _ | apply Drawn0.step)⟩
mutual
def attr_Value.j0 : Nat → ByteArray → Bool → Option (Bool)
 | 0, _, _ => none
 | k + 1, x0, x10 => if x10 = true then (some false) else (attr_Value.l0 k x0 (x0.size : Int) 0)
def attr_Value.l0 : Nat → ByteArray → Int → Int → Option (Bool)
 | 0, _, _, _ => none
 | k + 1, x0, x12, x13 => if x13 < x12 then (if 0 ≤ x13 then (if x13 < (x0.size : Int) then (if (bt x0 x13) < 32 then (some false) else (if (bt x0 x13) > 126 then (some false) else (attr_Value.l0 k x0 x12 (wrap64 (x13 + 1))))) else (none)) else (none)) else (some true)
end
def attr_Value.f (k : Nat) (a0 : ByteArray) : Option (Bool) := if a0.toList = ([] : List UInt8) then (attr_Value.j0 k a0 true) else (attr_Value.j0 k a0 (decide ((a0.size : Int) > 200)))
theorem attr_Value.mono_l : ∀ k, (∀ y0 y1, LeO (attr_Value.j0 k y0 y1) (attr_Value.j0 (k + 1) y0 y1)) ∧ (∀ y0 y1 y2, LeO (attr_Value.l0 k y0 y1 y2) (attr_Value.l0 (k + 1) y0 y1 y2))
 | 0 => ⟨fun _ _ r h => by simp [attr_Value.j0] at h, fun _ _ _ r h => by simp [attr_Value.l0] at h⟩
 | k + 1 => by
  obtain ⟨ih0, ih1⟩ := attr_Value.mono_l k
  refine ⟨?_, ?_⟩
  ·intro y0 y1
   unfold attr_Value.j0
   repeat' first
   | (with_reducible exact ih0 _ _)
   | (with_reducible exact ih1 _ _ _)
   | (with_reducible exact LeO.refl _)
   | (with_reducible exact LeO.none _)
   | (with_reducible refine LeO.ite ?_ ?_)
   | (with_reducible refine LeO.bind ?_ (fun _ => ?_))
   | exact ih0 _ _
   | exact ih1 _ _ _
   | exact LeO.none _
   | refine LeO.ite ?_ ?_
   | refine LeO.bind ?_ (fun _ => ?_)
  ·intro y0 y1 y2
   unfold attr_Value.l0
   repeat' first
   | (with_reducible exact ih0 _ _)
   | (with_reducible exact ih1 _ _ _)
   | (with_reducible exact LeO.refl _)
   | (with_reducible exact LeO.none _)
   | (with_reducible refine LeO.ite ?_ ?_)
   | (with_reducible refine LeO.bind ?_ (fun _ => ?_))
   | exact ih0 _ _
   | exact ih1 _ _ _
   | exact LeO.none _
   | refine LeO.ite ?_ ?_
   | refine LeO.bind ?_ (fun _ => ?_)
theorem attr_Value.mono : ∀ a0 k, LeO (attr_Value.f k a0) (attr_Value.f (k + 1) a0) := by
 intro a0 k
 obtain ⟨ih0, ih1⟩ := attr_Value.mono_l k
 unfold attr_Value.f
 repeat' first
   | (with_reducible exact ih0 _ _)
   | (with_reducible exact ih1 _ _ _)
   | (with_reducible exact LeO.refl _)
   | (with_reducible exact LeO.none _)
   | (with_reducible refine LeO.ite ?_ ?_)
   | (with_reducible refine LeO.bind ?_ (fun _ => ?_))
   | exact ih0 _ _
   | exact ih1 _ _ _
   | exact LeO.none _
   | refine LeO.ite ?_ ?_
   | refine LeO.bind ?_ (fun _ => ?_)
set_option maxHeartbeats 8000000 in
set_option maxRecDepth 100000 in
theorem attr_Value.calls (k : Nat) (a0 : ByteArray) (r : Bool) (w : World) (h : attr_Value.f k a0 = some r) :
  Calls Try.prog 121 #[.string a0] w fun e w' => e = .returned (.bool r) ∧ Drawn0 w w' := by
 have H : (if a0.toList = ([] : List UInt8) then (attr_Value.j0 k a0 true) else (attr_Value.j0 k a0 (decide ((a0.size : Int) > 200)))) = some r := h
 clear h
 have HC2 := Aside0.mk H
 clear H
 go_enter Try.func121, Try.ntmps121
 go_upto_region 1 with (fail)
 go_cut [10] (fun v10 wc => ∃ (kq : Nat) (x10_1 : Bool), v10 = .bool x10_1 ∧ Aside0 (attr_Value.j0 kq a0 x10_1 = some r) ∧ Aside0 (kq ≤ k) ∧ Drawn0 w wc)
 case first =>
  have H := HC2.out
  clear HC2
  by_cases c3 : a0.toList = ([] : List UInt8)
  ·rw [if_pos c3] at H
   have c3b0 : (a0.toList == ([] : List UInt8)) = true := beq_iff_eq.mpr c3
   have c3b1 : (a0.toList != ([] : List UInt8)) = false := bne_eq_false_iff_eq.mpr c3
   clear c3
   (first | rw [c3b0] | (simp only [i64_w, i32_w]; rw [c3b0]) | skip)
   have H' := Aside0.mk H
   clear H
   go_wp2
   go_meet
   case rel => exact ⟨_, (true), (by first | rfl | (simp; done) | (simp [*]; done)), H', ⟨by first | omega | exact Nat.le_refl _⟩, by repeat (first | exact Drawn0.refl _ | apply Drawn0.step)⟩
  ·rw [if_neg c3] at H
   have c3b0 : (a0.toList == ([] : List UInt8)) = false := beq_eq_false_iff_ne.mpr c3
   have c3b1 : (a0.toList != ([] : List UInt8)) = true := bne_iff_ne.mpr c3
   (first | rw [c3b0] | (simp only [i64_w, i32_w]; rw [c3b0]) | skip)
   have H' := Aside0.mk H
   clear H
   go_wp2
   go_meet
   case rel => exact ⟨_, (decide ((a0.size : Int) > 200)), (by first | rfl | (simp; done) | (simp [*]; done)), H', ⟨by first | omega | exact Nat.le_refl _⟩, by repeat (first | exact Drawn0.refl _ | apply Drawn0.step)⟩
 case rest =>
  clear HC2
  try clear c1
  try clear p2
  try clear c3
  try clear c3b0
  try clear c3b1
  obtain ⟨kq, x10_1, rfl, HA, HJ1, ⟨mc1, rfl⟩⟩ := hcut
  cases kq with
  | zero => exact absurd HA.out (by simp [attr_Value.j0])
  | succ kj1 =>
   have H := HA.out
   clear HA
   simp only [attr_Value.j0] at H
   by_cases c4 : x10_1 = true
   ·subst c4
    have H1 : (some false) = some r := by rw [if_pos rfl] at H; exact H
    clear H
    have H := H1
    clear H1
    obtain rfl := Option.some.inj H
    go_wp2
    go_ret
    exact ⟨by first | rfl | (simp; done) | (simp [*]; done), by repeat (first | exact Drawn0.refl _ | apply Drawn0.step)⟩
   ·replace c4 := Bool.eq_false_iff.mpr c4
    subst c4
    have H1 : (attr_Value.l0 kj1 a0 (a0.size : Int) 0) = some r := by rw [if_neg (show ¬ (false = true) by decide)] at H; exact H
    clear H
    have H := H1
    clear H1
    have H' := Aside0.mk H
    clear H
    go_wp2
    go_loopg [13] kj1 (fun kq v13 w' => ∃ (x13_2 : Int), v13 = .int .i64 x13_2 ∧ Aside0 (attr_Value.l0 kq a0 (a0.size : Int) x13_2 = some r) ∧ Aside0 (kq ≤ kj1) ∧ Drawn0 w w')
    case atStart => exact ⟨(0), (by first | rfl | (simp; done) | (simp [*]; done)), H', ⟨Nat.le_refl _⟩, by repeat (first | exact Drawn0.refl _ | apply Drawn0.step)⟩
    case round =>
     clear H'
     try clear c1
     try clear p2
     try clear c3
     try clear c3b0
     try clear c3b1
     try clear c4
     try clear p2
     obtain ⟨x13_2, rfl, HA, HK2, ⟨m2, rfl⟩⟩ := hrel
     cases gk with
     | zero => exact absurd HA.out (by simp [attr_Value.l0])
     | succ k2 =>
      have H := HA.out
      clear HA
      simp only [attr_Value.l0] at H
      by_cases c5 : x13_2 < (a0.size : Int)
      ·rw [if_pos c5] at H
       have c5b0 : decide (x13_2 < (a0.size : Int)) = true := decide_eq_true c5
       clear c5
       by_cases c6 : 0 ≤ x13_2
       ·rw [if_pos c6] at H
        have c6b0 : decide (0 ≤ x13_2) = true := decide_eq_true c6
        clear c6
        by_cases c7 : x13_2 < (a0.size : Int)
        ·rw [if_pos c7] at H
         have c7b0 : decide (x13_2 < (a0.size : Int)) = true := decide_eq_true c7
         clear c7
         by_cases c9 : (bt a0 x13_2) < 32
         ·rw [if_pos c9] at H
          have c9b0 : decide ((bt a0 x13_2) < 32) = true := decide_eq_true c9
          clear c9
          obtain rfl := Option.some.inj H
          have p8 : 0 ≤ (x13_2 : Int) := of_decide_eq_true (by assumption)
          have q8 : x13_2 < (a0.size : Int) := of_decide_eq_true (by assumption)
          have hx8 := bt_at a0 x13_2
          replace p8 := eq_true p8
          replace q8 := eq_true q8
          go_wp2
          go_ret
          exact ⟨by first | rfl | (simp; done) | (simp [*]; done), by repeat (first | exact Drawn0.refl _ | apply Drawn0.step)⟩
         ·rw [if_neg c9] at H
          have c9b0 : decide ((bt a0 x13_2) < 32) = false := decide_eq_false c9
          clear c9
          by_cases c11 : (bt a0 x13_2) > 126
          ·rw [if_pos c11] at H
           have c11b0 : decide (126 < (bt a0 x13_2)) = true := decide_eq_true c11
           clear c11
           obtain rfl := Option.some.inj H
           have p8 : 0 ≤ (x13_2 : Int) := of_decide_eq_true (by assumption)
           have q8 : x13_2 < (a0.size : Int) := of_decide_eq_true (by assumption)
           have hx8 := bt_at a0 x13_2
           replace p8 := eq_true p8
           replace q8 := eq_true q8
           have p10 : 0 ≤ (x13_2 : Int) := of_decide_eq_true (by assumption)
           have q10 : x13_2 < (a0.size : Int) := of_decide_eq_true (by assumption)
           have hx10 := bt_at a0 x13_2
           replace p10 := eq_true p10
           replace q10 := eq_true q10
           go_wp2
           go_ret
           exact ⟨by first | rfl | (simp; done) | (simp [*]; done), by repeat (first | exact Drawn0.refl _ | apply Drawn0.step)⟩
          ·rw [if_neg c11] at H
           have c11b0 : decide (126 < (bt a0 x13_2)) = false := decide_eq_false c11
           clear c11
           have H' := Aside0.mk H
           clear H
           have p8 : 0 ≤ (x13_2 : Int) := of_decide_eq_true (by assumption)
           have q8 : x13_2 < (a0.size : Int) := of_decide_eq_true (by assumption)
           have hx8 := bt_at a0 x13_2
           replace p8 := eq_true p8
           replace q8 := eq_true q8
           have p10 : 0 ≤ (x13_2 : Int) := of_decide_eq_true (by assumption)
           have q10 : x13_2 < (a0.size : Int) := of_decide_eq_true (by assumption)
           have hx10 := bt_at a0 x13_2
           replace p10 := eq_true p10
           replace q10 := eq_true q10
           go_wp2
           go_roundg k2
           case measure => have := HJ1.out; have := HK2.out; omega
           case rel => exact ⟨(wrap64 (x13_2 + 1)), (by first | rfl | (simp; done) | (simp [*]; done)), H', ⟨by have := HJ1.out; have := HK2.out; omega⟩, by repeat (first | exact Drawn0.refl _ | apply Drawn0.step)⟩
        ·rw [if_neg c7] at H
         exact absurd H (by simp)
       ·rw [if_neg c6] at H
        exact absurd H (by simp)
      ·rw [if_neg c5] at H
       have c5b0 : decide (x13_2 < (a0.size : Int)) = false := decide_eq_false c5
       clear c5
       obtain rfl := Option.some.inj H
       go_wp2
       go_ret
       exact ⟨by first | rfl | (simp; done) | (simp [*]; done), by repeat (first | exact Drawn0.refl _ | apply Drawn0.step)⟩
mutual
def attr_check.l0 : Nat → List (S38) → Bool → List (S38) → Int → Int → Option (Int)
 | 0, _, _, _, _, _ => none
 | k + 1, x0, x1, x7, x8, x9 => if x9 < x8 then (if 0 ≤ x9 then (if x9 < (x7.length : Int) then ((attr_Name.f k ((rd_T38 x7 x9).f0)).bind fun t103 => (if t103 = true then ((attr_Value.f k ((rd_T38 x7 x9).f1)).bind fun t104 => (if t104 = true then (attr_check.j1 k x0 x1 x9 x7 x8 x9 false ((rd_T38 x7 x9).f0) ((rd_T38 x7 x9).f1)) else (if x1 = true then (attr_check.j1 k x0 x1 x9 x7 x8 x9 (!(((rd_T38 x7 x9).f1).toList == ([] : List UInt8))) ((rd_T38 x7 x9).f0) ((rd_T38 x7 x9).f1)) else (attr_check.j1 k x0 x1 x9 x7 x8 x9 (!false) ((rd_T38 x7 x9).f0) ((rd_T38 x7 x9).f1))))) else (some 9))) else (none)) else (none)) else (some 0)
def attr_check.j1 : Nat → List (S38) → Bool → Int → List (S38) → Int → Int → Bool → ByteArray → ByteArray → Option (Int)
 | 0, _, _, _, _, _, _, _, _, _ => none
 | k + 1, x0, x1, x5, x7, x8, x9, x19, x103000, x103001 => if x19 = true then (some 23) else (if x5 > 0 then (if 0 ≤ (wrap64 (x5 - 1)) then (if (wrap64 (x5 - 1)) < (x0.length : Int) then (if ((Op.bytesLess (((rd_T38 x0 (wrap64 (x5 - 1))).f0).toList) x103000.toList) = true) then (attr_check.l0 k x0 x1 x7 x8 (wrap64 (x9 + 1))) else (some 5)) else (none)) else (none)) else (attr_check.l0 k x0 x1 x7 x8 (wrap64 (x9 + 1))))
end
def attr_check.f (k : Nat) (l0 : List (S38)) (a1 : Bool) : Option (Int) := attr_check.l0 k l0 a1 l0 (l0.length : Int) 0
set_option maxHeartbeats 8000000 in
set_option maxRecDepth 100000 in
theorem attr_check.calls (k : Nat) (A0 : Option Addr) (c0 : Nat) (l0 : List (S38)) (a1 : Bool) (r : Int) (w : World) (hr0 : Kd.C k38 w A0 l0.length l0) (hc0 : l0.length ≤ c0) (h : attr_check.f k l0 a1 = some r) :
  Calls Try.prog 102 #[.slice A0 l0.length c0, .bool a1] w fun e w' => e = .returned (.int .i64 r) ∧ Below w.heap.size w w' := by
 have hu38 := Try.underlying38
 have HR0 := Aside0.mk hr0
 have HC0 := Aside0.mk hc0
 clear hr0 hc0
 have HB := Aside0.mk (Below.refl w.heap.size w)
 have H : (attr_check.l0 k l0 a1 l0 (l0.length : Int) 0) = some r := h
 clear h
 have H' := Aside0.mk H
 clear H
 go_enter Try.func102, Try.ntmps102
 go_wp2
 repeat (go_quiet (fail); try go_wp2)
 go_loopg [9] k (fun kq v9 w' => ∃ (x9_1 : Int), v9 = .int .i64 x9_1 ∧ Aside0 (attr_check.l0 kq l0 a1 l0 (l0.length : Int) x9_1 = some r) ∧ Aside0 (kq ≤ k) ∧ Aside0 (Below w.heap.size w w'))
 case atStart => exact ⟨(0), (by first | rfl | (simp; done) | (simp [*]; done)), H', ⟨Nat.le_refl _⟩, ⟨by repeat (first | (with_reducible first | exact HB.out | apply below_alloc | apply pw_below_drewN | apply below_drew1) | exact HB.out)⟩⟩
 case round =>
  clear H'
  try clear c1
  try clear p2
  obtain ⟨x9_1, rfl, HA, HK1, HB⟩ := hrel
  cases gk with
  | zero => exact absurd HA.out (by simp [attr_check.l0])
  | succ k1 =>
   have H := HA.out
   clear HA
   simp only [attr_check.l0] at H
   by_cases c3 : x9_1 < (l0.length : Int)
   ·rw [if_pos c3] at H
    have c3b0 : decide (x9_1 < (l0.length : Int)) = true := decide_eq_true c3
    clear c3
    by_cases c4 : 0 ≤ x9_1
    ·rw [if_pos c4] at H
     have c4b0 : decide (0 ≤ x9_1) = true := decide_eq_true c4
     clear c4
     by_cases c5 : x9_1 < (l0.length : Int)
     ·rw [if_pos c5] at H
      have c5b0 : decide (x9_1 < (l0.length : Int)) = true := decide_eq_true c5
      clear c5
      replace H := Option.bind_eq_some_iff.mp H
      obtain ⟨t103, A60, H⟩ := H
      replace H : (if t103 = true then ((attr_Value.f k1 ((rd_T38 l0 x9_1).f1)).bind fun t104 => (if t104 = true then (attr_check.j1 k1 l0 a1 x9_1 l0 (l0.length : Int) x9_1 false ((rd_T38 l0 x9_1).f0) ((rd_T38 l0 x9_1).f1)) else (if a1 = true then (attr_check.j1 k1 l0 a1 x9_1 l0 (l0.length : Int) x9_1 (!(((rd_T38 l0 x9_1).f1).toList == ([] : List UInt8))) ((rd_T38 l0 x9_1).f0) ((rd_T38 l0 x9_1).f1)) else (attr_check.j1 k1 l0 a1 x9_1 l0 (l0.length : Int) x9_1 (!false) ((rd_T38 l0 x9_1).f0) ((rd_T38 l0 x9_1).f1))))) else (some 9)) = some r := H
      have A6 := Aside0.mk A60
      clear A60
      by_cases c7 : t103 = true
      ·subst c7
       have H1 : ((attr_Value.f k1 ((rd_T38 l0 x9_1).f1)).bind fun t104 => (if t104 = true then (attr_check.j1 k1 l0 a1 x9_1 l0 (l0.length : Int) x9_1 false ((rd_T38 l0 x9_1).f0) ((rd_T38 l0 x9_1).f1)) else (if a1 = true then (attr_check.j1 k1 l0 a1 x9_1 l0 (l0.length : Int) x9_1 (!(((rd_T38 l0 x9_1).f1).toList == ([] : List UInt8))) ((rd_T38 l0 x9_1).f0) ((rd_T38 l0 x9_1).f1)) else (attr_check.j1 k1 l0 a1 x9_1 l0 (l0.length : Int) x9_1 (!false) ((rd_T38 l0 x9_1).f0) ((rd_T38 l0 x9_1).f1))))) = some r := by rw [if_pos rfl] at H; exact H
       clear H
       have H := H1
       clear H1
       have HC8 := Aside0.mk H
       clear H
       have p101 : 0 ≤ (x9_1 : Int) := of_decide_eq_true (by assumption)
       have q101 : x9_1 < (l0.length : Int) := of_decide_eq_true (by assumption)
       obtain ⟨ad101, e101, hx101_0, hx101_1⟩ := at_T38 HR0.out x9_1 p101 q101
       cases e101
       replace hx101_0 := (HB.out.cell (World.block_lt_of_cell? w _ hx101_0)).trans hx101_0
       replace hx101_1 := (HB.out.cell (World.block_lt_of_cell? w _ hx101_1)).trans hx101_1
       replace p101 := eq_true p101
       replace q101 := eq_true q101
       go_upto_region 6 with (first | ((with_reducible refine gate_dst (N := 6) rfl ?_); refine box_event ?hg (N := 6) ?hd (cs := #[.string (⟨#[]⟩ : ByteArray), .string (⟨#[]⟩ : ByteArray)]) (t := 38) ?hr ?_; (case hd => rfl); (case hg => rfl); (case hr => first | (go_simp; done) | (go_simp; rfl)); intro gb102 hg w9 hbox hb; have n0_ := Aside0.mk (below_step (by with_reducible repeat first | exact HB.out | apply below_alloc | apply pw_below_drewN | apply below_drew1) hb); have n1_ := Aside0.mk (hbox); have n2_ := Aside0.mk ((by rw [hg]; exact (below_size (by with_reducible repeat first | exact HB.out | apply below_alloc | apply pw_below_drewN | apply below_drew1)) : w.heap.size ≤ gb102)); have n3_ := Aside0.mk ((by rw [hg]; exact (below_size (by with_reducible repeat first | exact HB.out | apply below_alloc | apply pw_below_drewN | apply below_drew1)) : w.heap.size ≤ gb102)); clear HB; have HB := n0_; have BK102 := n1_; have GW102 := n2_; have GE102 := n3_; clear n0_ n1_ n2_ n3_; clear hb hbox hg; have hcz10_0 : w9.cell? ⟨gb102, 0, none⟩ = some (.string (⟨#[]⟩ : ByteArray)) := (blk_cell BK102.out 0).trans rfl; have hcz10_1 : w9.cell? ⟨gb102, 1, none⟩ = some (.string (⟨#[]⟩ : ByteArray)) := (blk_cell BK102.out 1).trans rfl; have hfz10_0 := blk_frozen BK102.out 0; have hfz10_1 := blk_frozen BK102.out 1) | (go_at_call 120; (with_reducible refine (attr_Name.calls k1 ((rd_T38 l0 x9_1).f0) true _ A6.out).mono ?_); rintro e w' ⟨rfl, ⟨nd, rfl⟩⟩; (try first | exact ⟨rfl, _, World.drewN_drewN _ _ _⟩ | exact ⟨rfl, _, Eq.trans (World.drewN_drewN _ _ _) (congrArg (World.drewN _) (Nat.add_assoc _ _ _))⟩)))
       repeat (go_quiet (first | ((with_reducible refine gate_dst (N := 6) rfl ?_); refine box_event ?hg (N := 6) ?hd (cs := #[.string (⟨#[]⟩ : ByteArray), .string (⟨#[]⟩ : ByteArray)]) (t := 38) ?hr ?_; (case hd => rfl); (case hg => rfl); (case hr => first | (go_simp; done) | (go_simp; rfl)); intro gb102 hg w9 hbox hb; have n0_ := Aside0.mk (below_step (by with_reducible repeat first | exact HB.out | apply below_alloc | apply pw_below_drewN | apply below_drew1) hb); have n1_ := Aside0.mk (hbox); have n2_ := Aside0.mk ((by rw [hg]; exact (below_size (by with_reducible repeat first | exact HB.out | apply below_alloc | apply pw_below_drewN | apply below_drew1)) : w.heap.size ≤ gb102)); have n3_ := Aside0.mk ((by rw [hg]; exact (below_size (by with_reducible repeat first | exact HB.out | apply below_alloc | apply pw_below_drewN | apply below_drew1)) : w.heap.size ≤ gb102)); clear HB; have HB := n0_; have BK102 := n1_; have GW102 := n2_; have GE102 := n3_; clear n0_ n1_ n2_ n3_; clear hb hbox hg; have hcz10_0 : w9.cell? ⟨gb102, 0, none⟩ = some (.string (⟨#[]⟩ : ByteArray)) := (blk_cell BK102.out 0).trans rfl; have hcz10_1 : w9.cell? ⟨gb102, 1, none⟩ = some (.string (⟨#[]⟩ : ByteArray)) := (blk_cell BK102.out 1).trans rfl; have hfz10_0 := blk_frozen BK102.out 0; have hfz10_1 := blk_frozen BK102.out 1) | (go_at_call 120; (with_reducible refine (attr_Name.calls k1 ((rd_T38 l0 x9_1).f0) true _ A6.out).mono ?_); rintro e w' ⟨rfl, ⟨nd, rfl⟩⟩; (try first | exact ⟨rfl, _, World.drewN_drewN _ _ _⟩ | exact ⟨rfl, _, Eq.trans (World.drewN_drewN _ _ _) (congrArg (World.drewN _) (Nat.add_assoc _ _ _))⟩))); go_upto_region 6 with (first | ((with_reducible refine gate_dst (N := 6) rfl ?_); refine box_event ?hg (N := 6) ?hd (cs := #[.string (⟨#[]⟩ : ByteArray), .string (⟨#[]⟩ : ByteArray)]) (t := 38) ?hr ?_; (case hd => rfl); (case hg => rfl); (case hr => first | (go_simp; done) | (go_simp; rfl)); intro gb102 hg w9 hbox hb; have n0_ := Aside0.mk (below_step (by with_reducible repeat first | exact HB.out | apply below_alloc | apply pw_below_drewN | apply below_drew1) hb); have n1_ := Aside0.mk (hbox); have n2_ := Aside0.mk ((by rw [hg]; exact (below_size (by with_reducible repeat first | exact HB.out | apply below_alloc | apply pw_below_drewN | apply below_drew1)) : w.heap.size ≤ gb102)); have n3_ := Aside0.mk ((by rw [hg]; exact (below_size (by with_reducible repeat first | exact HB.out | apply below_alloc | apply pw_below_drewN | apply below_drew1)) : w.heap.size ≤ gb102)); clear HB; have HB := n0_; have BK102 := n1_; have GW102 := n2_; have GE102 := n3_; clear n0_ n1_ n2_ n3_; clear hb hbox hg; have hcz10_0 : w9.cell? ⟨gb102, 0, none⟩ = some (.string (⟨#[]⟩ : ByteArray)) := (blk_cell BK102.out 0).trans rfl; have hcz10_1 : w9.cell? ⟨gb102, 1, none⟩ = some (.string (⟨#[]⟩ : ByteArray)) := (blk_cell BK102.out 1).trans rfl; have hfz10_0 := blk_frozen BK102.out 0; have hfz10_1 := blk_frozen BK102.out 1) | (go_at_call 120; (with_reducible refine (attr_Name.calls k1 ((rd_T38 l0 x9_1).f0) true _ A6.out).mono ?_); rintro e w' ⟨rfl, ⟨nd, rfl⟩⟩; (try first | exact ⟨rfl, _, World.drewN_drewN _ _ _⟩ | exact ⟨rfl, _, Eq.trans (World.drewN_drewN _ _ _) (congrArg (World.drewN _) (Nat.add_assoc _ _ _))⟩))))
       (try simp only [Act.put, List.setIfInBounds_toArray, List.set_cons_zero, List.set_cons_succ])
       go_cut [19] (fun v19 wc => ∃ (kq : Nat) (x19_7 : Bool), v19 = .bool x19_7 ∧ Aside0 (attr_check.j1 kq l0 a1 x9_1 l0 (l0.length : Int) x9_1 x19_7 ((rd_T38 l0 x9_1).f0) ((rd_T38 l0 x9_1).f1) = some r) ∧ Aside0 (kq ≤ k1) ∧ Aside0 (wc.heap[gb102]? = some (.cells #[.string ((rd_T38 l0 x9_1).f0), .string ((rd_T38 l0 x9_1).f1)] 38 (0, 0))) ∧ Aside0 (Below w.heap.size w wc))
       case first =>
        have H := HC8.out
        clear HC8
        replace H := Option.bind_eq_some_iff.mp H
        obtain ⟨t104, A110, H⟩ := H
        replace H : (if t104 = true then (attr_check.j1 k1 l0 a1 x9_1 l0 (l0.length : Int) x9_1 false ((rd_T38 l0 x9_1).f0) ((rd_T38 l0 x9_1).f1)) else (if a1 = true then (attr_check.j1 k1 l0 a1 x9_1 l0 (l0.length : Int) x9_1 (!(((rd_T38 l0 x9_1).f1).toList == ([] : List UInt8))) ((rd_T38 l0 x9_1).f0) ((rd_T38 l0 x9_1).f1)) else (attr_check.j1 k1 l0 a1 x9_1 l0 (l0.length : Int) x9_1 (!false) ((rd_T38 l0 x9_1).f0) ((rd_T38 l0 x9_1).f1)))) = some r := H
        have A11 := Aside0.mk A110
        clear A110
        by_cases c12 : t104 = true
        ·subst c12
         have H1 : (attr_check.j1 k1 l0 a1 x9_1 l0 (l0.length : Int) x9_1 false ((rd_T38 l0 x9_1).f0) ((rd_T38 l0 x9_1).f1)) = some r := by rw [if_pos rfl] at H; exact H
         clear H
         have H := H1
         clear H1
         have H' := Aside0.mk H
         clear H
         have hcz13_0 : w9.cell? ⟨gb102, 0, none⟩ = some (.string (⟨#[]⟩ : ByteArray)) := (blk_cell BK102.out 0).trans rfl
         have hcz13_1 : w9.cell? ⟨gb102, 1, none⟩ = some (.string (⟨#[]⟩ : ByteArray)) := (blk_cell BK102.out 1).trans rfl
         have hfz13_0 := blk_frozen BK102.out 0
         have hfz13_1 := blk_frozen BK102.out 1
         go_wp2_with (first | (go_at_call 121; (with_reducible refine (attr_Value.calls k1 ((rd_T38 l0 x9_1).f1) true _ A11.out).mono ?_); rintro e w' ⟨rfl, ⟨nd, rfl⟩⟩; (try first | exact ⟨rfl, _, World.drewN_drewN _ _ _⟩ | exact ⟨rfl, _, Eq.trans (World.drewN_drewN _ _ _) (congrArg (World.drewN _) (Nat.add_assoc _ _ _))⟩)))
         repeat (go_quiet (first | (go_at_call 121; (with_reducible refine (attr_Value.calls k1 ((rd_T38 l0 x9_1).f1) true _ A11.out).mono ?_); rintro e w' ⟨rfl, ⟨nd, rfl⟩⟩; (try first | exact ⟨rfl, _, World.drewN_drewN _ _ _⟩ | exact ⟨rfl, _, Eq.trans (World.drewN_drewN _ _ _) (congrArg (World.drewN _) (Nat.add_assoc _ _ _))⟩))); try go_wp2_with (first | (go_at_call 121; (with_reducible refine (attr_Value.calls k1 ((rd_T38 l0 x9_1).f1) true _ A11.out).mono ?_); rintro e w' ⟨rfl, ⟨nd, rfl⟩⟩; (try first | exact ⟨rfl, _, World.drewN_drewN _ _ _⟩ | exact ⟨rfl, _, Eq.trans (World.drewN_drewN _ _ _) (congrArg (World.drewN _) (Nat.add_assoc _ _ _))⟩))))
         go_meet
         case rel => exact ⟨_, (false), (by first | rfl | (simp; done) | (simp [*]; done)), H', ⟨by have := HK1.out; first | omega | exact Nat.le_refl _⟩, ⟨by (with_reducible repeat (first | refine blk_drewN ?_ _ | refine blk_drew ?_ | refine blk_alloc ?_ _)); refine blk_put (cs := #[.string ((rd_T38 l0 x9_1).f0), .string (⟨#[]⟩ : ByteArray)]) ?_ 1 _ rfl; (with_reducible repeat (first | refine blk_drewN ?_ _ | refine blk_drew ?_ | refine blk_alloc ?_ _)); refine blk_put (cs := #[.string (⟨#[]⟩ : ByteArray), .string (⟨#[]⟩ : ByteArray)]) ?_ 0 _ rfl; (with_reducible repeat (first | refine blk_drewN ?_ _ | refine blk_drew ?_ | refine blk_alloc ?_ _)); exact BK102.out⟩, ⟨by repeat (first | (with_reducible first | exact HB.out | apply below_alloc | apply pw_below_drewN | apply below_drew1 | refine below_set ?_ GE102.out) | exact HB.out)⟩⟩
        ·replace c12 := Bool.eq_false_iff.mpr c12
         subst c12
         have H1 : (if a1 = true then (attr_check.j1 k1 l0 a1 x9_1 l0 (l0.length : Int) x9_1 (!(((rd_T38 l0 x9_1).f1).toList == ([] : List UInt8))) ((rd_T38 l0 x9_1).f0) ((rd_T38 l0 x9_1).f1)) else (attr_check.j1 k1 l0 a1 x9_1 l0 (l0.length : Int) x9_1 (!false) ((rd_T38 l0 x9_1).f0) ((rd_T38 l0 x9_1).f1))) = some r := by rw [if_neg (show ¬ (false = true) by decide)] at H; exact H
         clear H
         have H := H1
         clear H1
         by_cases c14 : a1 = true
         ·subst c14
          have H1 : (attr_check.j1 k1 l0 true x9_1 l0 (l0.length : Int) x9_1 (!(((rd_T38 l0 x9_1).f1).toList == ([] : List UInt8))) ((rd_T38 l0 x9_1).f0) ((rd_T38 l0 x9_1).f1)) = some r := by rw [if_pos rfl] at H; exact H
          clear H
          have H := H1
          clear H1
          have H' := Aside0.mk H
          clear H
          have hcz15_0 : w9.cell? ⟨gb102, 0, none⟩ = some (.string (⟨#[]⟩ : ByteArray)) := (blk_cell BK102.out 0).trans rfl
          have hcz15_1 : w9.cell? ⟨gb102, 1, none⟩ = some (.string (⟨#[]⟩ : ByteArray)) := (blk_cell BK102.out 1).trans rfl
          have hfz15_0 := blk_frozen BK102.out 0
          have hfz15_1 := blk_frozen BK102.out 1
          go_wp2_with (first | (go_at_call 121; (with_reducible refine (attr_Value.calls k1 ((rd_T38 l0 x9_1).f1) false _ A11.out).mono ?_); rintro e w' ⟨rfl, ⟨nd, rfl⟩⟩; (try first | exact ⟨rfl, _, World.drewN_drewN _ _ _⟩ | exact ⟨rfl, _, Eq.trans (World.drewN_drewN _ _ _) (congrArg (World.drewN _) (Nat.add_assoc _ _ _))⟩)))
          repeat (go_quiet (first | (go_at_call 121; (with_reducible refine (attr_Value.calls k1 ((rd_T38 l0 x9_1).f1) false _ A11.out).mono ?_); rintro e w' ⟨rfl, ⟨nd, rfl⟩⟩; (try first | exact ⟨rfl, _, World.drewN_drewN _ _ _⟩ | exact ⟨rfl, _, Eq.trans (World.drewN_drewN _ _ _) (congrArg (World.drewN _) (Nat.add_assoc _ _ _))⟩))); try go_wp2_with (first | (go_at_call 121; (with_reducible refine (attr_Value.calls k1 ((rd_T38 l0 x9_1).f1) false _ A11.out).mono ?_); rintro e w' ⟨rfl, ⟨nd, rfl⟩⟩; (try first | exact ⟨rfl, _, World.drewN_drewN _ _ _⟩ | exact ⟨rfl, _, Eq.trans (World.drewN_drewN _ _ _) (congrArg (World.drewN _) (Nat.add_assoc _ _ _))⟩))))
          go_meet
          case rel => exact ⟨_, (!(((rd_T38 l0 x9_1).f1).toList == ([] : List UInt8))), (by first | rfl | (simp; done) | (simp [*]; done)), H', ⟨by have := HK1.out; first | omega | exact Nat.le_refl _⟩, ⟨by (with_reducible repeat (first | refine blk_drewN ?_ _ | refine blk_drew ?_ | refine blk_alloc ?_ _)); refine blk_put (cs := #[.string ((rd_T38 l0 x9_1).f0), .string (⟨#[]⟩ : ByteArray)]) ?_ 1 _ rfl; (with_reducible repeat (first | refine blk_drewN ?_ _ | refine blk_drew ?_ | refine blk_alloc ?_ _)); refine blk_put (cs := #[.string (⟨#[]⟩ : ByteArray), .string (⟨#[]⟩ : ByteArray)]) ?_ 0 _ rfl; (with_reducible repeat (first | refine blk_drewN ?_ _ | refine blk_drew ?_ | refine blk_alloc ?_ _)); exact BK102.out⟩, ⟨by repeat (first | (with_reducible first | exact HB.out | apply below_alloc | apply pw_below_drewN | apply below_drew1 | refine below_set ?_ GE102.out) | exact HB.out)⟩⟩
         ·replace c14 := Bool.eq_false_iff.mpr c14
          subst c14
          have H1 : (attr_check.j1 k1 l0 false x9_1 l0 (l0.length : Int) x9_1 (!false) ((rd_T38 l0 x9_1).f0) ((rd_T38 l0 x9_1).f1)) = some r := by rw [if_neg (show ¬ (false = true) by decide)] at H; exact H
          clear H
          have H := H1
          clear H1
          have H' := Aside0.mk H
          clear H
          have hcz16_0 : w9.cell? ⟨gb102, 0, none⟩ = some (.string (⟨#[]⟩ : ByteArray)) := (blk_cell BK102.out 0).trans rfl
          have hcz16_1 : w9.cell? ⟨gb102, 1, none⟩ = some (.string (⟨#[]⟩ : ByteArray)) := (blk_cell BK102.out 1).trans rfl
          have hfz16_0 := blk_frozen BK102.out 0
          have hfz16_1 := blk_frozen BK102.out 1
          go_wp2_with (first | (go_at_call 121; (with_reducible refine (attr_Value.calls k1 ((rd_T38 l0 x9_1).f1) false _ A11.out).mono ?_); rintro e w' ⟨rfl, ⟨nd, rfl⟩⟩; (try first | exact ⟨rfl, _, World.drewN_drewN _ _ _⟩ | exact ⟨rfl, _, Eq.trans (World.drewN_drewN _ _ _) (congrArg (World.drewN _) (Nat.add_assoc _ _ _))⟩)))
          repeat (go_quiet (first | (go_at_call 121; (with_reducible refine (attr_Value.calls k1 ((rd_T38 l0 x9_1).f1) false _ A11.out).mono ?_); rintro e w' ⟨rfl, ⟨nd, rfl⟩⟩; (try first | exact ⟨rfl, _, World.drewN_drewN _ _ _⟩ | exact ⟨rfl, _, Eq.trans (World.drewN_drewN _ _ _) (congrArg (World.drewN _) (Nat.add_assoc _ _ _))⟩))); try go_wp2_with (first | (go_at_call 121; (with_reducible refine (attr_Value.calls k1 ((rd_T38 l0 x9_1).f1) false _ A11.out).mono ?_); rintro e w' ⟨rfl, ⟨nd, rfl⟩⟩; (try first | exact ⟨rfl, _, World.drewN_drewN _ _ _⟩ | exact ⟨rfl, _, Eq.trans (World.drewN_drewN _ _ _) (congrArg (World.drewN _) (Nat.add_assoc _ _ _))⟩))))
          go_meet
          case rel => exact ⟨_, (!false), (by first | rfl | (simp; done) | (simp [*]; done)), H', ⟨by have := HK1.out; first | omega | exact Nat.le_refl _⟩, ⟨by (with_reducible repeat (first | refine blk_drewN ?_ _ | refine blk_drew ?_ | refine blk_alloc ?_ _)); refine blk_put (cs := #[.string ((rd_T38 l0 x9_1).f0), .string (⟨#[]⟩ : ByteArray)]) ?_ 1 _ rfl; (with_reducible repeat (first | refine blk_drewN ?_ _ | refine blk_drew ?_ | refine blk_alloc ?_ _)); refine blk_put (cs := #[.string (⟨#[]⟩ : ByteArray), .string (⟨#[]⟩ : ByteArray)]) ?_ 0 _ rfl; (with_reducible repeat (first | refine blk_drewN ?_ _ | refine blk_drew ?_ | refine blk_alloc ?_ _)); exact BK102.out⟩, ⟨by repeat (first | (with_reducible first | exact HB.out | apply below_alloc | apply pw_below_drewN | apply below_drew1 | refine below_set ?_ GE102.out) | exact HB.out)⟩⟩
       case rest =>
        clear HC8
        try clear c1
        try clear p1
        try clear q1
        try clear hx1
        try clear p2
        try clear c3
        try clear c3b0
        try clear c4
        try clear c4b0
        try clear c5
        try clear c5b0
        try clear c7
        try clear c10
        try clear p10
        try clear q10
        try clear hx10
        try clear c12
        try clear c14
        try clear hcz10_0
        try clear hcz10_1
        try clear hcz13_0
        try clear hcz13_1
        try clear hcz15_0
        try clear hcz15_1
        try clear hcz16_0
        try clear hcz16_1
        try clear hfz10_0
        try clear hfz10_1
        try clear hfz13_0
        try clear hfz13_1
        try clear hfz15_0
        try clear hfz15_1
        try clear hfz16_0
        try clear hfz16_1
        try clear hx101_0
        try clear hx101_1
        try clear p101
        try clear p2
        try clear q101
        obtain ⟨kq, x19_7, rfl, HA, HJ7, BK102, HB⟩ := hcut
        cases kq with
        | zero => exact absurd HA.out (by simp [attr_check.j1])
        | succ kj7 =>
         have H := HA.out
         clear HA
         simp only [attr_check.j1] at H
         by_cases c17 : x19_7 = true
         ·subst c17
          have H1 : (some 23) = some r := by rw [if_pos rfl] at H; exact H
          clear H
          have H := H1
          clear H1
          obtain rfl := Option.some.inj H
          go_wp2
          repeat (go_quiet (fail); try go_wp2)
          go_ret
          exact ⟨by first | rfl | (simp [errW_none, errW_some] <;> rfl) | (simp [*, errW_none, errW_some] <;> rfl), by repeat (first | (with_reducible first | exact HB.out | apply below_alloc | apply pw_below_drewN | apply below_drew1 | refine below_set ?_ GE102.out) | exact HB.out)⟩
         ·replace c17 := Bool.eq_false_iff.mpr c17
          subst c17
          have H1 : (if x9_1 > 0 then (if 0 ≤ (wrap64 (x9_1 - 1)) then (if (wrap64 (x9_1 - 1)) < (l0.length : Int) then (if ((Op.bytesLess (((rd_T38 l0 (wrap64 (x9_1 - 1))).f0).toList) ((rd_T38 l0 x9_1).f0).toList) = true) then (attr_check.l0 kj7 l0 a1 l0 (l0.length : Int) (wrap64 (x9_1 + 1))) else (some 5)) else (none)) else (none)) else (attr_check.l0 kj7 l0 a1 l0 (l0.length : Int) (wrap64 (x9_1 + 1)))) = some r := by rw [if_neg (show ¬ (false = true) by decide)] at H; exact H
          clear H
          have H := H1
          clear H1
          by_cases c18 : x9_1 > 0
          ·rw [if_pos c18] at H
           have c18b0 : decide (0 < x9_1) = true := decide_eq_true c18
           clear c18
           obtain ⟨ji19, hji19⟩ : ∃ j_ : Int, (wrap64 (x9_1 - 1)) = j_ := ⟨_, rfl⟩
           replace H : (if 0 ≤ (ji19) then (if (ji19) < (l0.length : Int) then (if ((Op.bytesLess (((rd_T38 l0 (ji19)).f0).toList) ((rd_T38 l0 x9_1).f0).toList) = true) then (attr_check.l0 kj7 l0 a1 l0 (l0.length : Int) (wrap64 (x9_1 + 1))) else (some 5)) else (none)) else (none)) = some r := by first | (rw [hji19] at H; exact H) | (simp only [hji19] at H ⊢; exact H)
           have hji19w : (IntKind.i64.wrap (x9_1 - 1)) = ji19 := (i64_w _).trans hji19
           by_cases c20 : 0 ≤ (ji19)
           ·rw [if_pos c20] at H
            have c20b0 : decide (0 ≤ (ji19)) = true := decide_eq_true c20
            clear c20
            by_cases c21 : (ji19) < (l0.length : Int)
            ·rw [if_pos c21] at H
             have c21b0 : decide ((ji19) < (l0.length : Int)) = true := decide_eq_true c21
             clear c21
             by_cases c22 : ((Op.bytesLess (((rd_T38 l0 (ji19)).f0).toList) ((rd_T38 l0 x9_1).f0).toList) = true)
             ·rw [if_pos c22] at H
              have c22b0 : (Op.bytesLess (((rd_T38 l0 (ji19)).f0).toList) ((rd_T38 l0 x9_1).f0).toList) = true := c22
              clear c22
              have H' := Aside0.mk H
              clear H
              have hcz23_0 : wc.cell? ⟨gb102, 0, none⟩ = some (.string ((rd_T38 l0 x9_1).f0)) := (blk_cell BK102.out 0).trans rfl
              have hcz23_1 : wc.cell? ⟨gb102, 1, none⟩ = some (.string ((rd_T38 l0 x9_1).f1)) := (blk_cell BK102.out 1).trans rfl
              have hfz23_0 := blk_frozen BK102.out 0
              have hfz23_1 := blk_frozen BK102.out 1
              have p105 : 0 ≤ ((ji19) : Int) := of_decide_eq_true (by assumption)
              have q105 : (ji19) < (l0.length : Int) := of_decide_eq_true (by assumption)
              obtain ⟨ad105, e105, hx105_0, hx105_1⟩ := at_T38 HR0.out (ji19) p105 q105
              obtain rfl : ad101 = ad105 := (by injection e105)
              replace hx105_0 := (HB.out.cell (World.block_lt_of_cell? w _ hx105_0)).trans hx105_0
              replace hx105_1 := (HB.out.cell (World.block_lt_of_cell? w _ hx105_1)).trans hx105_1
              replace p105 := eq_true p105
              replace q105 := eq_true q105
              go_wp2
              repeat (go_quiet (fail); try go_wp2)
              go_roundg kj7
              case measure => have := HK1.out; have := HJ7.out; omega
              case rel => exact ⟨(wrap64 (x9_1 + 1)), (by first | rfl | (simp; done) | (simp [*]; done)), H', ⟨by have := HK1.out; have := HJ7.out; omega⟩, ⟨by repeat (first | (with_reducible first | exact HB.out | apply below_alloc | apply pw_below_drewN | apply below_drew1 | refine below_set ?_ GE102.out) | exact HB.out)⟩⟩
             ·rw [if_neg c22] at H
              have c22b0 : (Op.bytesLess (((rd_T38 l0 (ji19)).f0).toList) ((rd_T38 l0 x9_1).f0).toList) = false := by simpa using c22
              clear c22
              obtain rfl := Option.some.inj H
              have hcz24_0 : wc.cell? ⟨gb102, 0, none⟩ = some (.string ((rd_T38 l0 x9_1).f0)) := (blk_cell BK102.out 0).trans rfl
              have hcz24_1 : wc.cell? ⟨gb102, 1, none⟩ = some (.string ((rd_T38 l0 x9_1).f1)) := (blk_cell BK102.out 1).trans rfl
              have hfz24_0 := blk_frozen BK102.out 0
              have hfz24_1 := blk_frozen BK102.out 1
              have p105 : 0 ≤ ((ji19) : Int) := of_decide_eq_true (by assumption)
              have q105 : (ji19) < (l0.length : Int) := of_decide_eq_true (by assumption)
              obtain ⟨ad105, e105, hx105_0, hx105_1⟩ := at_T38 HR0.out (ji19) p105 q105
              obtain rfl : ad101 = ad105 := (by injection e105)
              replace hx105_0 := (HB.out.cell (World.block_lt_of_cell? w _ hx105_0)).trans hx105_0
              replace hx105_1 := (HB.out.cell (World.block_lt_of_cell? w _ hx105_1)).trans hx105_1
              replace p105 := eq_true p105
              replace q105 := eq_true q105
              go_wp2
              repeat (go_quiet (fail); try go_wp2)
              go_ret
              exact ⟨by first | rfl | (simp [errW_none, errW_some] <;> rfl) | (simp only [← hji19]; first | rfl | (simp [errW_none, errW_some] <;> rfl)) | (simp [*, errW_none, errW_some] <;> rfl), by repeat (first | (with_reducible first | exact HB.out | apply below_alloc | apply pw_below_drewN | apply below_drew1 | refine below_set ?_ GE102.out) | exact HB.out)⟩
            ·rw [if_neg c21] at H
             exact absurd H (by simp)
           ·rw [if_neg c20] at H
            exact absurd H (by simp)
          ·rw [if_neg c18] at H
           have c18b0 : decide (0 < x9_1) = false := decide_eq_false c18
           clear c18
           have H' := Aside0.mk H
           clear H
           go_wp2
           repeat (go_quiet (fail); try go_wp2)
           go_roundg kj7
           case measure => have := HK1.out; have := HJ7.out; omega
           case rel => exact ⟨(wrap64 (x9_1 + 1)), (by first | rfl | (simp; done) | (simp [*]; done)), H', ⟨by have := HK1.out; have := HJ7.out; omega⟩, ⟨by repeat (first | (with_reducible first | exact HB.out | apply below_alloc | apply pw_below_drewN | apply below_drew1 | refine below_set ?_ GE102.out) | exact HB.out)⟩⟩
      ·replace c7 := Bool.eq_false_iff.mpr c7
       subst c7
       have H1 : (some 9) = some r := by rw [if_neg (show ¬ (false = true) by decide)] at H; exact H
       clear H
       have H := H1
       clear H1
       obtain rfl := Option.some.inj H
       have p101 : 0 ≤ (x9_1 : Int) := of_decide_eq_true (by assumption)
       have q101 : x9_1 < (l0.length : Int) := of_decide_eq_true (by assumption)
       obtain ⟨ad101, e101, hx101_0, hx101_1⟩ := at_T38 HR0.out x9_1 p101 q101
       cases e101
       replace hx101_0 := (HB.out.cell (World.block_lt_of_cell? w _ hx101_0)).trans hx101_0
       replace hx101_1 := (HB.out.cell (World.block_lt_of_cell? w _ hx101_1)).trans hx101_1
       replace p101 := eq_true p101
       replace q101 := eq_true q101
       go_wp2_with (first | ((with_reducible refine gate_dst (N := 6) rfl ?_); refine box_event ?hg (N := 6) ?hd (cs := #[.string (⟨#[]⟩ : ByteArray), .string (⟨#[]⟩ : ByteArray)]) (t := 38) ?hr ?_; (case hd => rfl); (case hg => rfl); (case hr => first | (go_simp; done) | (go_simp; rfl)); intro gb102 hg w25 hbox hb; have n0_ := Aside0.mk (below_step (by with_reducible repeat first | exact HB.out | apply below_alloc | apply pw_below_drewN | apply below_drew1) hb); have n1_ := Aside0.mk (hbox); have n2_ := Aside0.mk ((by rw [hg]; exact (below_size (by with_reducible repeat first | exact HB.out | apply below_alloc | apply pw_below_drewN | apply below_drew1)) : w.heap.size ≤ gb102)); have n3_ := Aside0.mk ((by rw [hg]; exact (below_size (by with_reducible repeat first | exact HB.out | apply below_alloc | apply pw_below_drewN | apply below_drew1)) : w.heap.size ≤ gb102)); clear HB; have HB := n0_; have BK102 := n1_; have GW102 := n2_; have GE102 := n3_; clear n0_ n1_ n2_ n3_; clear hb hbox hg; have hcz26_0 : w25.cell? ⟨gb102, 0, none⟩ = some (.string (⟨#[]⟩ : ByteArray)) := (blk_cell BK102.out 0).trans rfl; have hcz26_1 : w25.cell? ⟨gb102, 1, none⟩ = some (.string (⟨#[]⟩ : ByteArray)) := (blk_cell BK102.out 1).trans rfl; have hfz26_0 := blk_frozen BK102.out 0; have hfz26_1 := blk_frozen BK102.out 1) | (go_at_call 120; (with_reducible refine (attr_Name.calls k1 ((rd_T38 l0 x9_1).f0) false _ A6.out).mono ?_); rintro e w' ⟨rfl, ⟨nd, rfl⟩⟩; (try first | exact ⟨rfl, _, World.drewN_drewN _ _ _⟩ | exact ⟨rfl, _, Eq.trans (World.drewN_drewN _ _ _) (congrArg (World.drewN _) (Nat.add_assoc _ _ _))⟩)))
       repeat (go_quiet (first | ((with_reducible refine gate_dst (N := 6) rfl ?_); refine box_event ?hg (N := 6) ?hd (cs := #[.string (⟨#[]⟩ : ByteArray), .string (⟨#[]⟩ : ByteArray)]) (t := 38) ?hr ?_; (case hd => rfl); (case hg => rfl); (case hr => first | (go_simp; done) | (go_simp; rfl)); intro gb102 hg w25 hbox hb; have n0_ := Aside0.mk (below_step (by with_reducible repeat first | exact HB.out | apply below_alloc | apply pw_below_drewN | apply below_drew1) hb); have n1_ := Aside0.mk (hbox); have n2_ := Aside0.mk ((by rw [hg]; exact (below_size (by with_reducible repeat first | exact HB.out | apply below_alloc | apply pw_below_drewN | apply below_drew1)) : w.heap.size ≤ gb102)); have n3_ := Aside0.mk ((by rw [hg]; exact (below_size (by with_reducible repeat first | exact HB.out | apply below_alloc | apply pw_below_drewN | apply below_drew1)) : w.heap.size ≤ gb102)); clear HB; have HB := n0_; have BK102 := n1_; have GW102 := n2_; have GE102 := n3_; clear n0_ n1_ n2_ n3_; clear hb hbox hg; have hcz26_0 : w25.cell? ⟨gb102, 0, none⟩ = some (.string (⟨#[]⟩ : ByteArray)) := (blk_cell BK102.out 0).trans rfl; have hcz26_1 : w25.cell? ⟨gb102, 1, none⟩ = some (.string (⟨#[]⟩ : ByteArray)) := (blk_cell BK102.out 1).trans rfl; have hfz26_0 := blk_frozen BK102.out 0; have hfz26_1 := blk_frozen BK102.out 1) | (go_at_call 120; (with_reducible refine (attr_Name.calls k1 ((rd_T38 l0 x9_1).f0) false _ A6.out).mono ?_); rintro e w' ⟨rfl, ⟨nd, rfl⟩⟩; (try first | exact ⟨rfl, _, World.drewN_drewN _ _ _⟩ | exact ⟨rfl, _, Eq.trans (World.drewN_drewN _ _ _) (congrArg (World.drewN _) (Nat.add_assoc _ _ _))⟩))); try go_wp2_with (first | ((with_reducible refine gate_dst (N := 6) rfl ?_); refine box_event ?hg (N := 6) ?hd (cs := #[.string (⟨#[]⟩ : ByteArray), .string (⟨#[]⟩ : ByteArray)]) (t := 38) ?hr ?_; (case hd => rfl); (case hg => rfl); (case hr => first | (go_simp; done) | (go_simp; rfl)); intro gb102 hg w25 hbox hb; have n0_ := Aside0.mk (below_step (by with_reducible repeat first | exact HB.out | apply below_alloc | apply pw_below_drewN | apply below_drew1) hb); have n1_ := Aside0.mk (hbox); have n2_ := Aside0.mk ((by rw [hg]; exact (below_size (by with_reducible repeat first | exact HB.out | apply below_alloc | apply pw_below_drewN | apply below_drew1)) : w.heap.size ≤ gb102)); have n3_ := Aside0.mk ((by rw [hg]; exact (below_size (by with_reducible repeat first | exact HB.out | apply below_alloc | apply pw_below_drewN | apply below_drew1)) : w.heap.size ≤ gb102)); clear HB; have HB := n0_; have BK102 := n1_; have GW102 := n2_; have GE102 := n3_; clear n0_ n1_ n2_ n3_; clear hb hbox hg; have hcz26_0 : w25.cell? ⟨gb102, 0, none⟩ = some (.string (⟨#[]⟩ : ByteArray)) := (blk_cell BK102.out 0).trans rfl; have hcz26_1 : w25.cell? ⟨gb102, 1, none⟩ = some (.string (⟨#[]⟩ : ByteArray)) := (blk_cell BK102.out 1).trans rfl; have hfz26_0 := blk_frozen BK102.out 0; have hfz26_1 := blk_frozen BK102.out 1) | (go_at_call 120; (with_reducible refine (attr_Name.calls k1 ((rd_T38 l0 x9_1).f0) false _ A6.out).mono ?_); rintro e w' ⟨rfl, ⟨nd, rfl⟩⟩; (try first | exact ⟨rfl, _, World.drewN_drewN _ _ _⟩ | exact ⟨rfl, _, Eq.trans (World.drewN_drewN _ _ _) (congrArg (World.drewN _) (Nat.add_assoc _ _ _))⟩))))
       go_ret
       exact ⟨by first | rfl | (simp [errW_none, errW_some] <;> rfl) | (simp [*, errW_none, errW_some] <;> rfl), by repeat (first | (with_reducible first | exact HB.out | apply below_alloc | apply pw_below_drewN | apply below_drew1 | refine below_set ?_ GE102.out) | exact HB.out)⟩
     ·rw [if_neg c5] at H
      exact absurd H (by simp)
    ·rw [if_neg c4] at H
     exact absurd H (by simp)
   ·rw [if_neg c3] at H
    have c3b0 : decide (x9_1 < (l0.length : Int)) = false := decide_eq_false c3
    clear c3
    obtain rfl := Option.some.inj H
    go_wp2
    repeat (go_quiet (fail); try go_wp2)
    go_ret
    exact ⟨by first | rfl | (simp [errW_none, errW_some] <;> rfl) | (simp [*, errW_none, errW_some] <;> rfl), by repeat (first | (with_reducible first | exact HB.out | apply below_alloc | apply pw_below_drewN | apply below_drew1) | exact HB.out)⟩
def attr_CheckChange.f (k : Nat) (l0 : List (S38)) : Option (Int) := (attr_check.f k l0 true).bind fun t106 => (some t106)
set_option maxHeartbeats 8000000 in
set_option maxRecDepth 100000 in
theorem attr_CheckChange.calls (k : Nat) (A0 : Option Addr) (c0 : Nat) (l0 : List (S38)) (r : Int) (w : World) (hr0 : Kd.C k38 w A0 l0.length l0) (hc0 : l0.length ≤ c0) (h : attr_CheckChange.f k l0 = some r) :
  Calls Try.prog 65 #[.slice A0 l0.length c0] w fun e w' => e = .returned (.int .i64 r) ∧ Below w.heap.size w w' := by
 have HR0 := Aside0.mk hr0
 have HC0 := Aside0.mk hc0
 clear hr0 hc0
 have HB := Aside0.mk (Below.refl w.heap.size w)
 have H : ((attr_check.f k l0 true).bind fun t106 => (some t106)) = some r := h
 clear h
 replace H := Option.bind_eq_some_iff.mp H
 obtain ⟨t106, A20, H⟩ := H
 replace H : (some t106) = some r := H
 have A2 := Aside0.mk A20
 clear A20
 obtain rfl := Option.some.inj H
 go_enter Try.func65, Try.ntmps65
 go_wp2_with (first | ((with_reducible refine gate_callee (f := 102) rfl ?_); refine goesL_ (some 4) rfl rfl Try.func102 (by kernel_rfl) rfl #[.slice A0 l0.length c0, .bool true] rfl (by (try simp only [List.map_toArray, List.map_cons, List.map_nil]); first | done | rfl | (simp only [List.length_drop, List.length_take]; rfl)) ?_; (with_reducible refine (attr_check.calls k _ _ l0 true t106 _ ?side1 ?side2 A2.out).mono ?_); (case side1 => repeat (first | exact HR0.out | (with_reducible refine Kd.C_alloc ?_ _) | (with_reducible refine Kd.C_drewN ?_ _) | (with_reducible refine Kd.C_drew ?_))); (case side2 => exact HC0.out); rintro e w3 ⟨rfl, hb⟩; refine ⟨_, rfl, ?_⟩; replace HB := Aside0.mk (below_step (by with_reducible repeat first | exact HB.out | apply below_alloc | apply pw_below_drewN | apply below_drew1) hb); (try clear hb); (try clear hb2); (try clear hk); (try clear hi)))
 go_ret
 exact ⟨by first | rfl | (simp [errW_none, errW_some] <;> rfl) | (simp [*, errW_none, errW_some] <;> rfl), by repeat (first | (with_reducible first | exact HB.out | apply below_alloc | apply pw_below_drewN | apply below_drew1) | exact HB.out)⟩
def attr_Check.f (k : Nat) (l0 : List (S38)) : Option (Int) := (attr_check.f k l0 false).bind fun t107 => (some t107)
set_option maxHeartbeats 8000000 in
set_option maxRecDepth 100000 in
theorem attr_Check.calls (k : Nat) (A0 : Option Addr) (c0 : Nat) (l0 : List (S38)) (r : Int) (w : World) (hr0 : Kd.C k38 w A0 l0.length l0) (hc0 : l0.length ≤ c0) (h : attr_Check.f k l0 = some r) :
  Calls Try.prog 64 #[.slice A0 l0.length c0] w fun e w' => e = .returned (.int .i64 r) ∧ Below w.heap.size w w' := by
 have HR0 := Aside0.mk hr0
 have HC0 := Aside0.mk hc0
 clear hr0 hc0
 have HB := Aside0.mk (Below.refl w.heap.size w)
 have H : ((attr_check.f k l0 false).bind fun t107 => (some t107)) = some r := h
 clear h
 replace H := Option.bind_eq_some_iff.mp H
 obtain ⟨t107, A20, H⟩ := H
 replace H : (some t107) = some r := H
 have A2 := Aside0.mk A20
 clear A20
 obtain rfl := Option.some.inj H
 go_enter Try.func64, Try.ntmps64
 go_wp2_with (first | ((with_reducible refine gate_callee (f := 102) rfl ?_); refine goesL_ (some 4) rfl rfl Try.func102 (by kernel_rfl) rfl #[.slice A0 l0.length c0, .bool false] rfl (by (try simp only [List.map_toArray, List.map_cons, List.map_nil]); first | done | rfl | (simp only [List.length_drop, List.length_take]; rfl)) ?_; (with_reducible refine (attr_check.calls k _ _ l0 false t107 _ ?side1 ?side2 A2.out).mono ?_); (case side1 => repeat (first | exact HR0.out | (with_reducible refine Kd.C_alloc ?_ _) | (with_reducible refine Kd.C_drewN ?_ _) | (with_reducible refine Kd.C_drew ?_))); (case side2 => exact HC0.out); rintro e w3 ⟨rfl, hb⟩; refine ⟨_, rfl, ?_⟩; replace HB := Aside0.mk (below_step (by with_reducible repeat first | exact HB.out | apply below_alloc | apply pw_below_drewN | apply below_drew1) hb); (try clear hb); (try clear hb2); (try clear hk); (try clear hi)))
 go_ret
 exact ⟨by first | rfl | (simp [errW_none, errW_some] <;> rfl) | (simp [*, errW_none, errW_some] <;> rfl), by repeat (first | (with_reducible first | exact HB.out | apply below_alloc | apply pw_below_drewN | apply below_drew1) | exact HB.out)⟩
def flow_Char.f (a0 : Int) : Option (Bool) := if a0 = 9 then (some true) else (if a0 = 10 then (some true) else (if a0 ≥ 32 then (if a0 < 127 then (some true) else (if a0 ≥ 160 then (if a0 < 55296 then (some true) else (if a0 > 57343 then (some (decide (a0 ≤ 1114111))) else (some false))) else (if a0 > 57343 then (some (decide (a0 ≤ 1114111))) else (some false)))) else (if a0 ≥ 160 then (if a0 < 55296 then (some true) else (if a0 > 57343 then (some (decide (a0 ≤ 1114111))) else (some false))) else (if a0 > 57343 then (some (decide (a0 ≤ 1114111))) else (some false)))))
set_option maxHeartbeats 8000000 in
set_option maxRecDepth 100000 in
theorem flow_Char.calls (a0 : Int) (r : Bool) (w : World) (h : flow_Char.f a0 = some r) :
  Calls Try.prog 122 #[.int .i64 a0] w fun e w' => e = .returned (.bool r) ∧ Drawn0 w w' := by
 have H : (if a0 = 9 then (some true) else (if a0 = 10 then (some true) else (if a0 ≥ 32 then (if a0 < 127 then (some true) else (if a0 ≥ 160 then (if a0 < 55296 then (some true) else (if a0 > 57343 then (some (decide (a0 ≤ 1114111))) else (some false))) else (if a0 > 57343 then (some (decide (a0 ≤ 1114111))) else (some false)))) else (if a0 ≥ 160 then (if a0 < 55296 then (some true) else (if a0 > 57343 then (some (decide (a0 ≤ 1114111))) else (some false))) else (if a0 > 57343 then (some (decide (a0 ≤ 1114111))) else (some false)))))) = some r := h
 clear h
 by_cases c2 : a0 = 9
 ·rw [if_pos c2] at H
  have c2b0 : (a0 == 9) = true := beq_iff_eq.mpr c2
  have c2b1 : (a0 != 9) = false := bne_eq_false_iff_eq.mpr c2
  clear c2
  obtain rfl := Option.some.inj H
  go_enter Try.func122, Try.ntmps122
  go_wp2
  go_ret
  exact ⟨by first | rfl | (simp; done) | (simp [*]; done), by repeat (first | exact Drawn0.refl _ | apply Drawn0.step)⟩
 ·rw [if_neg c2] at H
  have c2b0 : (a0 == 9) = false := beq_eq_false_iff_ne.mpr c2
  have c2b1 : (a0 != 9) = true := bne_iff_ne.mpr c2
  by_cases c3 : a0 = 10
  ·rw [if_pos c3] at H
   have c3b0 : (a0 == 10) = true := beq_iff_eq.mpr c3
   have c3b1 : (a0 != 10) = false := bne_eq_false_iff_eq.mpr c3
   clear c3
   obtain rfl := Option.some.inj H
   go_enter Try.func122, Try.ntmps122
   go_wp2
   go_ret
   exact ⟨by first | rfl | (simp; done) | (simp [*]; done), by repeat (first | exact Drawn0.refl _ | apply Drawn0.step)⟩
  ·rw [if_neg c3] at H
   have c3b0 : (a0 == 10) = false := beq_eq_false_iff_ne.mpr c3
   have c3b1 : (a0 != 10) = true := bne_iff_ne.mpr c3
   by_cases c4 : a0 ≥ 32
   ·rw [if_pos c4] at H
    have c4b0 : decide (32 ≤ a0) = true := decide_eq_true c4
    clear c4
    by_cases c5 : a0 < 127
    ·rw [if_pos c5] at H
     have c5b0 : decide (a0 < 127) = true := decide_eq_true c5
     clear c5
     obtain rfl := Option.some.inj H
     go_enter Try.func122, Try.ntmps122
     go_wp2
     go_ret
     exact ⟨by first | rfl | (simp; done) | (simp [*]; done), by repeat (first | exact Drawn0.refl _ | apply Drawn0.step)⟩
    ·rw [if_neg c5] at H
     have c5b0 : decide (a0 < 127) = false := decide_eq_false c5
     clear c5
     by_cases c6 : a0 ≥ 160
     ·rw [if_pos c6] at H
      have c6b0 : decide (160 ≤ a0) = true := decide_eq_true c6
      clear c6
      by_cases c7 : a0 < 55296
      ·rw [if_pos c7] at H
       have c7b0 : decide (a0 < 55296) = true := decide_eq_true c7
       clear c7
       obtain rfl := Option.some.inj H
       go_enter Try.func122, Try.ntmps122
       go_wp2
       go_ret
       exact ⟨by first | rfl | (simp; done) | (simp [*]; done), by repeat (first | exact Drawn0.refl _ | apply Drawn0.step)⟩
      ·rw [if_neg c7] at H
       have c7b0 : decide (a0 < 55296) = false := decide_eq_false c7
       clear c7
       by_cases c8 : a0 > 57343
       ·rw [if_pos c8] at H
        have c8b0 : decide (57343 < a0) = true := decide_eq_true c8
        clear c8
        obtain rfl := Option.some.inj H
        go_enter Try.func122, Try.ntmps122
        go_wp2
        go_ret
        exact ⟨by first | rfl | (simp; done) | (simp [*]; done), by repeat (first | exact Drawn0.refl _ | apply Drawn0.step)⟩
       ·rw [if_neg c8] at H
        have c8b0 : decide (57343 < a0) = false := decide_eq_false c8
        clear c8
        obtain rfl := Option.some.inj H
        go_enter Try.func122, Try.ntmps122
        go_wp2
        go_ret
        exact ⟨by first | rfl | (simp; done) | (simp [*]; done), by repeat (first | exact Drawn0.refl _ | apply Drawn0.step)⟩
     ·rw [if_neg c6] at H
      have c6b0 : decide (160 ≤ a0) = false := decide_eq_false c6
      clear c6
      by_cases c9 : a0 > 57343
      ·rw [if_pos c9] at H
       have c9b0 : decide (57343 < a0) = true := decide_eq_true c9
       clear c9
       obtain rfl := Option.some.inj H
       go_enter Try.func122, Try.ntmps122
       go_wp2
       go_ret
       exact ⟨by first | rfl | (simp; done) | (simp [*]; done), by repeat (first | exact Drawn0.refl _ | apply Drawn0.step)⟩
      ·rw [if_neg c9] at H
       have c9b0 : decide (57343 < a0) = false := decide_eq_false c9
       clear c9
       obtain rfl := Option.some.inj H
       go_enter Try.func122, Try.ntmps122
       go_wp2
       go_ret
       exact ⟨by first | rfl | (simp; done) | (simp [*]; done), by repeat (first | exact Drawn0.refl _ | apply Drawn0.step)⟩
   ·rw [if_neg c4] at H
    have c4b0 : decide (32 ≤ a0) = false := decide_eq_false c4
    clear c4
    by_cases c10 : a0 ≥ 160
    ·rw [if_pos c10] at H
     have c10b0 : decide (160 ≤ a0) = true := decide_eq_true c10
     clear c10
     by_cases c11 : a0 < 55296
     ·rw [if_pos c11] at H
      have c11b0 : decide (a0 < 55296) = true := decide_eq_true c11
      clear c11
      obtain rfl := Option.some.inj H
      go_enter Try.func122, Try.ntmps122
      go_wp2
      go_ret
      exact ⟨by first | rfl | (simp; done) | (simp [*]; done), by repeat (first | exact Drawn0.refl _ | apply Drawn0.step)⟩
     ·rw [if_neg c11] at H
      have c11b0 : decide (a0 < 55296) = false := decide_eq_false c11
      clear c11
      by_cases c12 : a0 > 57343
      ·rw [if_pos c12] at H
       have c12b0 : decide (57343 < a0) = true := decide_eq_true c12
       clear c12
       obtain rfl := Option.some.inj H
       go_enter Try.func122, Try.ntmps122
       go_wp2
       go_ret
       exact ⟨by first | rfl | (simp; done) | (simp [*]; done), by repeat (first | exact Drawn0.refl _ | apply Drawn0.step)⟩
      ·rw [if_neg c12] at H
       have c12b0 : decide (57343 < a0) = false := decide_eq_false c12
       clear c12
       obtain rfl := Option.some.inj H
       go_enter Try.func122, Try.ntmps122
       go_wp2
       go_ret
       exact ⟨by first | rfl | (simp; done) | (simp [*]; done), by repeat (first | exact Drawn0.refl _ | apply Drawn0.step)⟩
    ·rw [if_neg c10] at H
     have c10b0 : decide (160 ≤ a0) = false := decide_eq_false c10
     clear c10
     by_cases c13 : a0 > 57343
     ·rw [if_pos c13] at H
      have c13b0 : decide (57343 < a0) = true := decide_eq_true c13
      clear c13
      obtain rfl := Option.some.inj H
      go_enter Try.func122, Try.ntmps122
      go_wp2
      go_ret
      exact ⟨by first | rfl | (simp; done) | (simp [*]; done), by repeat (first | exact Drawn0.refl _ | apply Drawn0.step)⟩
     ·rw [if_neg c13] at H
      have c13b0 : decide (57343 < a0) = false := decide_eq_false c13
      clear c13
      obtain rfl := Option.some.inj H
      go_enter Try.func122, Try.ntmps122
      go_wp2
      go_ret
      exact ⟨by first | rfl | (simp; done) | (simp [*]; done), by repeat (first | exact Drawn0.refl _ | apply Drawn0.step)⟩
def flow_elem.j0 : Nat → Bool → Int → Int → List (S38) → Option (Int)
 | 0, _, _, _, _ => none
 | k + 1, x11, x109000, x109001, x109002 => if x11 = true then (some 2) else (if x109001 = 0 then ((attr_Check.f k x109002).bind fun t110 => (some t110)) else (if x109001 < 1 then (some 2) else (if x109001 > 1073741824 then (some 2) else ((attr_Check.f k x109002).bind fun t111 => (some t111)))))
def flow_elem.f (k : Nat) (a0_0 : Int) (a0_1 : Int) (l0_2 : List (S38)) : Option (Int) := if ((a0_0 != 0) == (a0_1 != 0)) = true then (some 4) else (if a0_1 = 0 then ((flow_Char.f a0_0).bind fun t109 => (flow_elem.j0 k (!t109) a0_0 a0_1 l0_2)) else (flow_elem.j0 k false a0_0 a0_1 l0_2))
set_option maxHeartbeats 8000000 in
set_option maxRecDepth 100000 in
theorem flow_elem.calls (k : Nat) (a0_0 : Int) (a0_1 : Int) (A0_2 : Option Addr) (c0_2 : Nat) (l0_2 : List (S38)) (r : Int) (w : World) (hr0_2 : Kd.C k38 w A0_2 l0_2.length l0_2) (hc0_2 : l0_2.length ≤ c0_2) (h : flow_elem.f k a0_0 a0_1 l0_2 = some r) :
  Calls Try.prog 114 #[.agg #[.int .i64 a0_0, .int .i64 a0_1, .slice A0_2 l0_2.length c0_2]] w fun e w' => e = .returned (.int .i64 r) ∧ Below w.heap.size w w' := by
 have hu84 := Try.underlying84
 have HR0_2 := Aside0.mk hr0_2
 have HC0_2 := Aside0.mk hc0_2
 clear hr0_2 hc0_2
 have HB := Aside0.mk (Below.refl w.heap.size w)
 have H : (if ((a0_0 != 0) == (a0_1 != 0)) = true then (some 4) else (if a0_1 = 0 then ((flow_Char.f a0_0).bind fun t109 => (flow_elem.j0 k (!t109) a0_0 a0_1 l0_2)) else (flow_elem.j0 k false a0_0 a0_1 l0_2))) = some r := h
 clear h
 by_cases c2 : ((a0_0 != 0) == (a0_1 != 0)) = true
 ·rw [if_pos c2] at H
  have c2b0 : ((a0_0 != 0) == (a0_1 != 0)) = true := c2
  (try (have c2b1 : decide ((a0_0 != 0) = (a0_1 != 0)) = true := by simpa using c2))
  (try (have c2b2 : ((a0_0 != 0) == (a0_1 != 0)) = true := by simpa using c2))
  clear c2
  obtain rfl := Option.some.inj H
  go_enter Try.func114, Try.ntmps114
  go_wp2_with (first | ((with_reducible refine gate_dst (N := 1) rfl ?_); refine box_event ?hg (N := 1) ?hd (cs := #[.int .i64 a0_0, .int .i64 a0_1, .slice A0_2 l0_2.length c0_2]) (t := 84) ?hr ?_; (case hd => rfl); (case hg => rfl); (case hr => first | (go_simp; done) | (go_simp; rfl)); intro gb108 hg w3 hbox hb; have n0_ := Aside0.mk (below_step (by with_reducible repeat first | exact HB.out | apply below_alloc | apply pw_below_drewN | apply below_drew1) hb); have n1_ := Aside0.mk (hbox); have n2_ := Aside0.mk ((by rw [hg]; exact (below_size (by with_reducible repeat first | exact HB.out | apply below_alloc | apply pw_below_drewN | apply below_drew1)) : w.heap.size ≤ gb108)); have n3_ := Aside0.mk ((by rw [hg]; exact (below_size (by with_reducible repeat first | exact HB.out | apply below_alloc | apply pw_below_drewN | apply below_drew1)) : w.heap.size ≤ gb108)); clear HB; have HB := n0_; have BK108 := n1_; have GW108 := n2_; have GE108 := n3_; clear n0_ n1_ n2_ n3_; clear hb hbox hg; have hcz4_0 : w3.cell? ⟨gb108, 0, none⟩ = some (.int .i64 a0_0) := (blk_cell BK108.out 0).trans rfl; have hcz4_1 : w3.cell? ⟨gb108, 1, none⟩ = some (.int .i64 a0_1) := (blk_cell BK108.out 1).trans rfl; have hcz4_2 : w3.cell? ⟨gb108, 2, none⟩ = some (.slice A0_2 l0_2.length c0_2) := (blk_cell BK108.out 2).trans rfl; have hfz4_0 := blk_frozen BK108.out 0; have hfz4_1 := blk_frozen BK108.out 1; have hfz4_2 := blk_frozen BK108.out 2))
  go_ret
  exact ⟨by first | rfl | (simp [errW_none, errW_some] <;> rfl) | (simp [*, errW_none, errW_some] <;> rfl), by repeat (first | (with_reducible first | exact HB.out | apply below_alloc | apply pw_below_drewN | apply below_drew1 | refine below_set ?_ GE108.out) | exact HB.out)⟩
 ·rw [if_neg c2] at H
  have c2b0 : ((a0_0 != 0) == (a0_1 != 0)) = false := by simpa using c2
  (try (have c2b1 : decide ((a0_0 != 0) = (a0_1 != 0)) = false := by simpa using c2))
  (try (have c2b2 : ((a0_0 != 0) == (a0_1 != 0)) = false := by simpa using c2))
  (try (have c2b3 : ¬ ((a0_0 != 0) = (a0_1 != 0)) := by simpa using c2))
  clear c2
  have HC5 := Aside0.mk H
  clear H
  go_enter Try.func114, Try.ntmps114
  go_upto_region 3 with (first | ((with_reducible refine gate_dst (N := 1) rfl ?_); refine box_event ?hg (N := 1) ?hd (cs := #[.int .i64 a0_0, .int .i64 a0_1, .slice A0_2 l0_2.length c0_2]) (t := 84) ?hr ?_; (case hd => rfl); (case hg => rfl); (case hr => first | (go_simp; done) | (go_simp; rfl)); intro gb108 hg w6 hbox hb; have n0_ := Aside0.mk (below_step (by with_reducible repeat first | exact HB.out | apply below_alloc | apply pw_below_drewN | apply below_drew1) hb); have n1_ := Aside0.mk (hbox); have n2_ := Aside0.mk ((by rw [hg]; exact (below_size (by with_reducible repeat first | exact HB.out | apply below_alloc | apply pw_below_drewN | apply below_drew1)) : w.heap.size ≤ gb108)); have n3_ := Aside0.mk ((by rw [hg]; exact (below_size (by with_reducible repeat first | exact HB.out | apply below_alloc | apply pw_below_drewN | apply below_drew1)) : w.heap.size ≤ gb108)); clear HB; have HB := n0_; have BK108 := n1_; have GW108 := n2_; have GE108 := n3_; clear n0_ n1_ n2_ n3_; clear hb hbox hg; have hcz7_0 : w6.cell? ⟨gb108, 0, none⟩ = some (.int .i64 a0_0) := (blk_cell BK108.out 0).trans rfl; have hcz7_1 : w6.cell? ⟨gb108, 1, none⟩ = some (.int .i64 a0_1) := (blk_cell BK108.out 1).trans rfl; have hcz7_2 : w6.cell? ⟨gb108, 2, none⟩ = some (.slice A0_2 l0_2.length c0_2) := (blk_cell BK108.out 2).trans rfl; have hfz7_0 := blk_frozen BK108.out 0; have hfz7_1 := blk_frozen BK108.out 1; have hfz7_2 := blk_frozen BK108.out 2))
  (try simp only [Act.put, List.setIfInBounds_toArray, List.set_cons_zero, List.set_cons_succ])
  go_cut [11] (fun v11 wc => ∃ (kq : Nat) (x11_4 : Bool), v11 = .bool x11_4 ∧ Aside0 (flow_elem.j0 kq x11_4 a0_0 a0_1 l0_2 = some r) ∧ Aside0 (kq ≤ k) ∧ Aside0 (wc.heap[gb108]? = some (.cells #[.int .i64 a0_0, .int .i64 a0_1, (.slice A0_2 l0_2.length c0_2)] 84 (0, 0))) ∧ Aside0 (Below w.heap.size w wc))
  case first =>
   have H := HC5.out
   clear HC5
   by_cases c8 : a0_1 = 0
   ·rw [if_pos c8] at H
    have c8b0 : (a0_1 == 0) = true := beq_iff_eq.mpr c8
    have c8b1 : (a0_1 != 0) = false := bne_eq_false_iff_eq.mpr c8
    clear c8
    (first | rw [c8b0] | (simp only [i64_w, i32_w]; rw [c8b0]) | skip)
    replace H := Option.bind_eq_some_iff.mp H
    obtain ⟨t109, A90, H⟩ := H
    replace H : (flow_elem.j0 k (!t109) a0_0 a0_1 l0_2) = some r := H
    have A9 := Aside0.mk A90
    clear A90
    have H' := Aside0.mk H
    clear H
    have hcz10_0 : w6.cell? ⟨gb108, 0, none⟩ = some (.int .i64 a0_0) := (blk_cell BK108.out 0).trans rfl
    have hcz10_1 : w6.cell? ⟨gb108, 1, none⟩ = some (.int .i64 a0_1) := (blk_cell BK108.out 1).trans rfl
    have hcz10_2 : w6.cell? ⟨gb108, 2, none⟩ = some (.slice A0_2 l0_2.length c0_2) := (blk_cell BK108.out 2).trans rfl
    have hfz10_0 := blk_frozen BK108.out 0
    have hfz10_1 := blk_frozen BK108.out 1
    have hfz10_2 := blk_frozen BK108.out 2
    go_wp2_with (first | (go_at_call 122; (with_reducible refine (flow_Char.calls a0_0 t109 _ A9.out).mono ?_); rintro e w' ⟨rfl, ⟨nd, rfl⟩⟩))
    go_meet
    case rel => exact ⟨_, (!t109), (by first | rfl | (simp; done) | (simp [*]; done)), H', ⟨by first | omega | exact Nat.le_refl _⟩, ⟨by (with_reducible repeat (first | refine blk_drewN ?_ _ | refine blk_drew ?_ | refine blk_alloc ?_ _)); exact BK108.out⟩, ⟨by repeat (first | (with_reducible first | exact HB.out | apply below_alloc | apply pw_below_drewN | apply below_drew1 | refine below_set ?_ GE108.out) | exact HB.out)⟩⟩
   ·rw [if_neg c8] at H
    have c8b0 : (a0_1 == 0) = false := beq_eq_false_iff_ne.mpr c8
    have c8b1 : (a0_1 != 0) = true := bne_iff_ne.mpr c8
    (first | rw [c8b0] | (simp only [i64_w, i32_w]; rw [c8b0]) | skip)
    have H' := Aside0.mk H
    clear H
    have hcz11_0 : w6.cell? ⟨gb108, 0, none⟩ = some (.int .i64 a0_0) := (blk_cell BK108.out 0).trans rfl
    have hcz11_1 : w6.cell? ⟨gb108, 1, none⟩ = some (.int .i64 a0_1) := (blk_cell BK108.out 1).trans rfl
    have hcz11_2 : w6.cell? ⟨gb108, 2, none⟩ = some (.slice A0_2 l0_2.length c0_2) := (blk_cell BK108.out 2).trans rfl
    have hfz11_0 := blk_frozen BK108.out 0
    have hfz11_1 := blk_frozen BK108.out 1
    have hfz11_2 := blk_frozen BK108.out 2
    go_wp2
    go_meet
    case rel => exact ⟨_, (false), (by first | rfl | (simp; done) | (simp [*]; done)), H', ⟨by first | omega | exact Nat.le_refl _⟩, ⟨by (with_reducible repeat (first | refine blk_drewN ?_ _ | refine blk_drew ?_ | refine blk_alloc ?_ _)); exact BK108.out⟩, ⟨by repeat (first | (with_reducible first | exact HB.out | apply below_alloc | apply pw_below_drewN | apply below_drew1 | refine below_set ?_ GE108.out) | exact HB.out)⟩⟩
  case rest =>
   clear HC5
   try clear c1
   try clear c2
   try clear c2b0
   try clear c2b1
   try clear c2b2
   try clear p2
   try clear c8
   try clear c8b0
   try clear c8b1
   try clear c11
   try clear hcz10_0
   try clear hcz10_1
   try clear hcz10_2
   try clear hcz11_0
   try clear hcz11_1
   try clear hcz11_2
   try clear hcz4_0
   try clear hcz4_1
   try clear hcz4_2
   try clear hcz7_0
   try clear hcz7_1
   try clear hcz7_2
   try clear hfz10_0
   try clear hfz10_1
   try clear hfz10_2
   try clear hfz11_0
   try clear hfz11_1
   try clear hfz11_2
   try clear hfz4_0
   try clear hfz4_1
   try clear hfz4_2
   try clear hfz7_0
   try clear hfz7_1
   try clear hfz7_2
   obtain ⟨kq, x11_4, rfl, HA, HJ4, BK108, HB⟩ := hcut
   cases kq with
   | zero => exact absurd HA.out (by simp [flow_elem.j0])
   | succ kj4 =>
    have H := HA.out
    clear HA
    simp only [flow_elem.j0] at H
    by_cases c12 : x11_4 = true
    ·subst c12
     have H1 : (some 2) = some r := by rw [if_pos rfl] at H; exact H
     clear H
     have H := H1
     clear H1
     obtain rfl := Option.some.inj H
     go_wp2
     go_ret
     exact ⟨by first | rfl | (simp [errW_none, errW_some] <;> rfl) | (simp [*, errW_none, errW_some] <;> rfl), by repeat (first | (with_reducible first | exact HB.out | apply below_alloc | apply pw_below_drewN | apply below_drew1 | refine below_set ?_ GE108.out) | exact HB.out)⟩
    ·replace c12 := Bool.eq_false_iff.mpr c12
     subst c12
     have H1 : (if a0_1 = 0 then ((attr_Check.f kj4 l0_2).bind fun t110 => (some t110)) else (if a0_1 < 1 then (some 2) else (if a0_1 > 1073741824 then (some 2) else ((attr_Check.f kj4 l0_2).bind fun t111 => (some t111))))) = some r := by rw [if_neg (show ¬ (false = true) by decide)] at H; exact H
     clear H
     have H := H1
     clear H1
     by_cases c13 : a0_1 = 0
     ·rw [if_pos c13] at H
      have c13b0 : (a0_1 == 0) = true := beq_iff_eq.mpr c13
      have c13b1 : (a0_1 != 0) = false := bne_eq_false_iff_eq.mpr c13
      clear c13
      replace H := Option.bind_eq_some_iff.mp H
      obtain ⟨t110, A140, H⟩ := H
      replace H : (some t110) = some r := H
      have A14 := Aside0.mk A140
      clear A140
      obtain rfl := Option.some.inj H
      have hcz15_0 : wc.cell? ⟨gb108, 0, none⟩ = some (.int .i64 a0_0) := (blk_cell BK108.out 0).trans rfl
      have hcz15_1 : wc.cell? ⟨gb108, 1, none⟩ = some (.int .i64 a0_1) := (blk_cell BK108.out 1).trans rfl
      have hcz15_2 : wc.cell? ⟨gb108, 2, none⟩ = some (.slice A0_2 l0_2.length c0_2) := (blk_cell BK108.out 2).trans rfl
      have hfz15_0 := blk_frozen BK108.out 0
      have hfz15_1 := blk_frozen BK108.out 1
      have hfz15_2 := blk_frozen BK108.out 2
      go_wp2_with (first | ((with_reducible refine gate_callee (f := 64) rfl ?_); refine goesL_ (some 36) rfl rfl Try.func64 (by kernel_rfl) rfl #[.slice A0_2 l0_2.length c0_2] rfl (by (try simp only [List.map_toArray, List.map_cons, List.map_nil]); first | done | rfl | (simp only [List.length_drop, List.length_take]; rfl)) ?_; (with_reducible refine (attr_Check.calls kj4 _ _ l0_2 t110 _ ?side1 ?side2 A14.out).mono ?_); (case side1 => repeat (first | exact (Kd.C_below HR0_2.out HB.out) | (with_reducible refine Kd.C_alloc ?_ _) | (with_reducible refine Kd.C_drewN ?_ _) | (with_reducible refine Kd.C_drew ?_))); (case side2 => exact HC0_2.out); rintro e w16 ⟨rfl, hb⟩; refine ⟨_, rfl, ?_⟩; have n0_ := Aside0.mk (blk_below (g := gb108) (o := .cells #[.int .i64 a0_0, .int .i64 a0_1, .slice A0_2 l0_2.length c0_2] 84 (0, 0)) (by (with_reducible repeat (first | refine blk_drewN ?_ _ | refine blk_drew ?_ | refine blk_alloc ?_ _)); exact BK108.out) hb); have n1_ := Aside0.mk (below_step (by repeat (first | (with_reducible first | exact HB.out | apply below_alloc | apply pw_below_drewN | apply below_drew1 | refine below_set ?_ GE108.out) | exact HB.out)) hb); clear BK108; clear HB; have BK108 := n0_; have HB := n1_; clear n0_ n1_; (try clear hb); (try clear hb2); (try clear hk); (try clear hi)))
      go_ret
      exact ⟨by first | rfl | (simp [errW_none, errW_some] <;> rfl) | (simp [*, errW_none, errW_some] <;> rfl), by repeat (first | (with_reducible first | exact HB.out | apply below_alloc | apply pw_below_drewN | apply below_drew1 | refine below_set ?_ GE108.out) | exact HB.out)⟩
     ·rw [if_neg c13] at H
      have c13b0 : (a0_1 == 0) = false := beq_eq_false_iff_ne.mpr c13
      have c13b1 : (a0_1 != 0) = true := bne_iff_ne.mpr c13
      by_cases c17 : a0_1 < 1
      ·rw [if_pos c17] at H
       have c17b0 : decide (a0_1 < 1) = true := decide_eq_true c17
       clear c17
       obtain rfl := Option.some.inj H
       have hcz18_0 : wc.cell? ⟨gb108, 0, none⟩ = some (.int .i64 a0_0) := (blk_cell BK108.out 0).trans rfl
       have hcz18_1 : wc.cell? ⟨gb108, 1, none⟩ = some (.int .i64 a0_1) := (blk_cell BK108.out 1).trans rfl
       have hcz18_2 : wc.cell? ⟨gb108, 2, none⟩ = some (.slice A0_2 l0_2.length c0_2) := (blk_cell BK108.out 2).trans rfl
       have hfz18_0 := blk_frozen BK108.out 0
       have hfz18_1 := blk_frozen BK108.out 1
       have hfz18_2 := blk_frozen BK108.out 2
       go_wp2
       go_ret
       exact ⟨by first | rfl | (simp [errW_none, errW_some] <;> rfl) | (simp [*, errW_none, errW_some] <;> rfl), by repeat (first | (with_reducible first | exact HB.out | apply below_alloc | apply pw_below_drewN | apply below_drew1 | refine below_set ?_ GE108.out) | exact HB.out)⟩
      ·rw [if_neg c17] at H
       have c17b0 : decide (a0_1 < 1) = false := decide_eq_false c17
       clear c17
       by_cases c19 : a0_1 > 1073741824
       ·rw [if_pos c19] at H
        have c19b0 : decide (1073741824 < a0_1) = true := decide_eq_true c19
        clear c19
        obtain rfl := Option.some.inj H
        have hcz20_0 : wc.cell? ⟨gb108, 0, none⟩ = some (.int .i64 a0_0) := (blk_cell BK108.out 0).trans rfl
        have hcz20_1 : wc.cell? ⟨gb108, 1, none⟩ = some (.int .i64 a0_1) := (blk_cell BK108.out 1).trans rfl
        have hcz20_2 : wc.cell? ⟨gb108, 2, none⟩ = some (.slice A0_2 l0_2.length c0_2) := (blk_cell BK108.out 2).trans rfl
        have hfz20_0 := blk_frozen BK108.out 0
        have hfz20_1 := blk_frozen BK108.out 1
        have hfz20_2 := blk_frozen BK108.out 2
        go_wp2
        go_ret
        exact ⟨by first | rfl | (simp [errW_none, errW_some] <;> rfl) | (simp [*, errW_none, errW_some] <;> rfl), by repeat (first | (with_reducible first | exact HB.out | apply below_alloc | apply pw_below_drewN | apply below_drew1 | refine below_set ?_ GE108.out) | exact HB.out)⟩
       ·rw [if_neg c19] at H
        have c19b0 : decide (1073741824 < a0_1) = false := decide_eq_false c19
        clear c19
        replace H := Option.bind_eq_some_iff.mp H
        obtain ⟨t111, A210, H⟩ := H
        replace H : (some t111) = some r := H
        have A21 := Aside0.mk A210
        clear A210
        obtain rfl := Option.some.inj H
        have hcz22_0 : wc.cell? ⟨gb108, 0, none⟩ = some (.int .i64 a0_0) := (blk_cell BK108.out 0).trans rfl
        have hcz22_1 : wc.cell? ⟨gb108, 1, none⟩ = some (.int .i64 a0_1) := (blk_cell BK108.out 1).trans rfl
        have hcz22_2 : wc.cell? ⟨gb108, 2, none⟩ = some (.slice A0_2 l0_2.length c0_2) := (blk_cell BK108.out 2).trans rfl
        have hfz22_0 := blk_frozen BK108.out 0
        have hfz22_1 := blk_frozen BK108.out 1
        have hfz22_2 := blk_frozen BK108.out 2
        go_wp2_with (first | ((with_reducible refine gate_callee (f := 64) rfl ?_); refine goesL_ (some 36) rfl rfl Try.func64 (by kernel_rfl) rfl #[.slice A0_2 l0_2.length c0_2] rfl (by (try simp only [List.map_toArray, List.map_cons, List.map_nil]); first | done | rfl | (simp only [List.length_drop, List.length_take]; rfl)) ?_; (with_reducible refine (attr_Check.calls kj4 _ _ l0_2 t111 _ ?side1 ?side2 A21.out).mono ?_); (case side1 => repeat (first | exact (Kd.C_below HR0_2.out HB.out) | (with_reducible refine Kd.C_alloc ?_ _) | (with_reducible refine Kd.C_drewN ?_ _) | (with_reducible refine Kd.C_drew ?_))); (case side2 => exact HC0_2.out); rintro e w23 ⟨rfl, hb⟩; refine ⟨_, rfl, ?_⟩; have n0_ := Aside0.mk (blk_below (g := gb108) (o := .cells #[.int .i64 a0_0, .int .i64 a0_1, .slice A0_2 l0_2.length c0_2] 84 (0, 0)) (by (with_reducible repeat (first | refine blk_drewN ?_ _ | refine blk_drew ?_ | refine blk_alloc ?_ _)); exact BK108.out) hb); have n1_ := Aside0.mk (below_step (by repeat (first | (with_reducible first | exact HB.out | apply below_alloc | apply pw_below_drewN | apply below_drew1 | refine below_set ?_ GE108.out) | exact HB.out)) hb); clear BK108; clear HB; have BK108 := n0_; have HB := n1_; clear n0_ n1_; (try clear hb); (try clear hb2); (try clear hk); (try clear hi)))
        go_ret
        exact ⟨by first | rfl | (simp [errW_none, errW_some] <;> rfl) | (simp [*, errW_none, errW_some] <;> rfl), by repeat (first | (with_reducible first | exact HB.out | apply below_alloc | apply pw_below_drewN | apply below_drew1 | refine below_set ?_ GE108.out) | exact HB.out)⟩
end Go.Proofs.Ytdgemabmmomebaa.PDelta
end
section
namespace Go.Proofs.Ytdgemabmmomebaa.PDelta
open Go.RowKit Go.Proofs.YtdgemabmmomebaaW.PrintWords Go.Proofs.YtdgemabmmomebaaW.PrintLast Go.Proofs.YtdgemabmmomebaaW.PrintMore
theorem wrap_up {i : Int} (h0 : 0 ≤ i) (h : i ≤ 1099511627776) : wrap64 (i + 1) = i + 1 := by unfold wrap64; omega
theorem wrap_dn {i : Int} (h0 : 0 ≤ i) (h : i ≤ 1099511627776) : wrap64 (i - 1) = i - 1 := by unfold wrap64; omega
def chOK (first : Prop) (c : Int) : Prop := (97 ≤ c ∧ c ≤ 122) ∨ (¬ first ∧ (c = 46 ∨ c = 45 ∨ (48 ≤ c ∧ c ≤ 57)))
def NameOK (s : ByteArray) : Prop := 1 ≤ s.size ∧ s.size ≤ 24 ∧ ∀ i : Int, 0 ≤ i → i < s.size → chOK (i = 0) (bt s i)
def ValOK (s : ByteArray) : Prop := 1 ≤ s.size ∧ s.size ≤ 200 ∧ ∀ i : Int, 0 ≤ i → i < s.size → 32 ≤ bt s i ∧ bt s i ≤ 126
theorem size_list (s : ByteArray) : s.toList.length = s.size := by rw [ByteArray.toList_eq]; rfl
theorem list_nil {s : ByteArray} : s.toList = [] ↔ s.size = 0 := by rw [← size_list, List.length_eq_zero_iff]
theorem ba_ext {a b : ByteArray} (h : a.toList = b.toList) : a = b := by
 rw [ByteArray.toList_eq, ByteArray.toList_eq] at h
 cases a; cases b; congr; exact Array.toList_inj.1 h
theorem rname_l0 (s : ByteArray) (hs : s.size ≤ 1099511627776) (d : Nat) : ∀ (k : Nat) (i : Int), 0 ≤ i → i ≤ s.size → (s.size : Int) - i = d → d < k →
  ∃ b, chanceryref1_Name.l0 k s (s.size : Int) i = some b ∧ (b = true ↔ (1 ≤ s.size ∧ s.size ≤ 24 ∧ ∀ j : Int, i ≤ j → j < s.size → chOK (j = 0) (bt s j))) := by
 induction d with
 | zero =>
  intro k i h0 h1 hd hk
  obtain ⟨k, rfl⟩ : ∃ m, k = m + 1 := ⟨k - 1, by omega⟩
  simp only [chanceryref1_Name.l0]
  rw [if_neg (by omega)]
  by_cases hz : (s.size : Int) ≥ 1
  ·rw [if_pos hz]
   refine ⟨_, rfl, ?_⟩
   rw [decide_eq_true_eq]
   exact ⟨fun h => ⟨by omega, by omega, fun j h2 h3 => by omega⟩, fun h => by omega⟩
  ·rw [if_neg hz]
   exact ⟨false, rfl, by simp; omega⟩
 | succ d ih =>
  intro k i h0 h1 hd hk
  obtain ⟨k, rfl⟩ : ∃ m, k = m + 1 := ⟨k - 1, by omega⟩
  have hlt : i < (s.size : Int) := by omega
  by_cases hc : chOK (i = 0) (bt s i)
  ·have e : chanceryref1_Name.l0 (k + 1) s (s.size : Int) i = chanceryref1_Name.l0 k s (s.size : Int) (i + 1) := by
    simp only [chanceryref1_Name.l0]
    rw [if_pos hlt, if_pos h0, if_pos hlt, wrap_up h0 (by omega)]
    unfold chOK at hc
    repeat' (first | rfl | split)
    all_goals (exfalso; omega)
   obtain ⟨b, hb, hi⟩ := ih k (i + 1) (by omega) (by omega) (by omega) (by omega)
   refine ⟨b, e.trans hb, hi.trans ⟨fun ⟨a1, a2, a3⟩ => ⟨a1, a2, fun j h2 h3 => ?_⟩, fun ⟨a1, a2, a3⟩ => ⟨a1, a2, fun j h2 h3 => a3 j (by omega) h3⟩⟩⟩
   rcases Int.lt_or_eq_of_le h2 with h4 | h4
   ·exact a3 j (by omega) h3
   ·subst h4; exact hc
  ·refine ⟨false, ?_, ⟨(fun h => by cases h), (fun h => absurd (h.2.2 i (Int.le_refl _) hlt) hc)⟩⟩
   simp only [chanceryref1_Name.l0]
   rw [if_pos hlt, if_pos h0, if_pos hlt]
   unfold chOK at hc
   repeat' (first | rfl | split)
   all_goals (exfalso; omega)
theorem rname_ev (s : ByteArray) (hs : s.size ≤ 1099511627776) : ∃ b, Ev (fun k => chanceryref1_Name.f k s) b ∧ (b = true ↔ NameOK s) := by
 obtain ⟨b, hb, hi⟩ := rname_l0 s hs s.size (s.size + 1) 0 (by omega) (by omega) (by omega) (by omega)
 exact ⟨b, Ev.of (fun k => chanceryref1_Name.mono s k) (k := s.size + 1) hb, hi⟩
theorem name_l0 (s : ByteArray) (hs : s.size ≤ 1099511627776) (d : Nat) : ∀ (k : Nat) (i : Int), 0 ≤ i → i ≤ s.size → (s.size : Int) - i = d → d < k →
  ∃ b, attr_Name.l0 k s (s.size : Int) i = some b ∧ (b = true ↔ ∀ j : Int, i ≤ j → j < s.size → chOK False (bt s j)) := by
 induction d with
 | zero =>
  intro k i h0 h1 hd hk
  obtain ⟨k, rfl⟩ : ∃ m, k = m + 1 := ⟨k - 1, by omega⟩
  simp only [attr_Name.l0]
  rw [if_neg (by omega)]
  exact ⟨true, rfl, ⟨fun _ j h2 h3 => by omega, fun _ => rfl⟩⟩
 | succ d ih =>
  intro k i h0 h1 hd hk
  obtain ⟨k, rfl⟩ : ∃ m, k = m + 1 := ⟨k - 1, by omega⟩
  have hlt : i < (s.size : Int) := by omega
  by_cases hc : chOK False (bt s i)
  ·have e : attr_Name.l0 (k + 1) s (s.size : Int) i = attr_Name.l0 k s (s.size : Int) (i + 1) := by
    simp only [attr_Name.l0]
    rw [if_pos hlt, if_pos h0, if_pos hlt, wrap_up h0 (by omega)]
    unfold chOK at hc
    repeat' (first | rfl | split)
    all_goals (exfalso; omega)
   obtain ⟨b, hb, hi⟩ := ih k (i + 1) (by omega) (by omega) (by omega) (by omega)
   refine ⟨b, e.trans hb, hi.trans ⟨fun h j h2 h3 => ?_, fun h j h2 h3 => h j (by omega) h3⟩⟩
   rcases Int.lt_or_eq_of_le h2 with h4 | h4
   ·exact h j (by omega) h3
   ·subst h4; exact hc
  ·refine ⟨false, ?_, ⟨(fun h => by cases h), (fun h => absurd (h i (Int.le_refl _) hlt) hc)⟩⟩
   have hc' : ¬ ((97 ≤ bt s i ∧ bt s i ≤ 122) ∨ (bt s i = 46 ∨ bt s i = 45 ∨ (48 ≤ bt s i ∧ bt s i ≤ 57))) := fun h => hc (h.imp id (fun h => ⟨id, h⟩))
   clear hc
   simp only [attr_Name.l0]
   rw [if_pos hlt, if_pos h0, if_pos hlt]
   repeat' (first | rfl | split)
   all_goals (exfalso; omega)
theorem name_ev (s : ByteArray) (hs : s.size ≤ 1099511627776) : ∃ b, Ev (fun k => attr_Name.f k s) b ∧ (b = true ↔ NameOK s) := by
 have bad : ∀ k, attr_Name.j0 (k + 1) s true = some false := fun k => by simp only [attr_Name.j0]; rw [if_pos trivial]
 have fls : ¬ NameOK s → attr_Name.f 1 s = some false → ∃ b, Ev (fun k => attr_Name.f k s) b ∧ (b = true ↔ NameOK s) := fun h e => ⟨false, Ev.of (fun k => attr_Name.mono s k) e, ⟨(fun h => by cases h), (fun h' => absurd h' h)⟩⟩
 by_cases h0 : s.size = 0
 ·exact fls (fun h => by have := h.1; omega) (by simp only [attr_Name.f]; rw [if_pos (list_nil.2 h0)]; exact bad 0)
 have hn : ¬ s.toList = [] := fun h => h0 (list_nil.1 h)
 by_cases h1 : (s.size : Int) > 24
 ·exact fls (fun h => by have := h.2.1; omega) (by simp only [attr_Name.f]; rw [if_neg hn, if_pos h1]; exact bad 0)
 by_cases h2 : bt s 0 < 97
 ·exact fls (fun h => by have := h.2.2 0 (Int.le_refl _) (by omega); unfold chOK at this; simp at this; omega) (by simp only [attr_Name.f]; rw [if_neg hn, if_neg h1, if_pos (by omega), if_pos h2]; exact bad 0)
 by_cases h3 : bt s 0 > 122
 ·exact fls (fun h => by have := h.2.2 0 (Int.le_refl _) (by omega); unfold chOK at this; simp at this; omega) (by simp only [attr_Name.f]; rw [if_neg hn, if_neg h1, if_pos (by omega), if_neg h2, decide_eq_true h3]; exact bad 0)
 obtain ⟨b, hb, hi⟩ := name_l0 s hs s.size (s.size + 1) 0 (by omega) (by omega) (by omega) (by omega)
 refine ⟨b, Ev.of (fun k => attr_Name.mono s k) (k := s.size + 2) ?_, hi.trans ⟨fun h => ⟨by omega, by omega, fun j a1 a2 => ?_⟩, fun h j a1 a2 => ?_⟩⟩
 ·simp only [attr_Name.f]
  rw [if_neg hn, if_neg h1, if_pos (by omega), if_neg h2, decide_eq_false h3]
  simp only [attr_Name.j0]
  rw [if_neg (by decide)]
  exact hb
 ·rcases h j a1 a2 with h4 | ⟨_, h4⟩
  ·exact .inl h4
  ·by_cases hj : j = 0
   ·subst hj
    exact .inl (by omega)
   ·exact .inr ⟨hj, h4⟩
 ·rcases h.2.2 j a1 a2 with h4 | ⟨_, h4⟩
  ·exact .inl h4
  ·exact .inr ⟨id, h4⟩
theorem rval_l0 (s : ByteArray) (hs : s.size ≤ 1099511627776) (d : Nat) : ∀ (k : Nat) (i : Int), 0 ≤ i → i ≤ s.size → (s.size : Int) - i = d → d < k →
  ∃ b, chanceryref1_Value.l0 k s (s.size : Int) i = some b ∧ (b = true ↔ (1 ≤ s.size ∧ s.size ≤ 200 ∧ ∀ j : Int, i ≤ j → j < s.size → 32 ≤ bt s j ∧ bt s j ≤ 126)) := by
 induction d with
 | zero =>
  intro k i h0 h1 hd hk
  obtain ⟨k, rfl⟩ : ∃ m, k = m + 1 := ⟨k - 1, by omega⟩
  simp only [chanceryref1_Value.l0]
  rw [if_neg (by omega)]
  by_cases hz : (s.size : Int) ≥ 1
  ·rw [if_pos hz]
   refine ⟨_, rfl, ?_⟩
   rw [decide_eq_true_eq]
   exact ⟨fun h => ⟨by omega, by omega, fun j h2 h3 => by omega⟩, fun h => by omega⟩
  ·rw [if_neg hz]
   exact ⟨false, rfl, by simp; omega⟩
 | succ d ih =>
  intro k i h0 h1 hd hk
  obtain ⟨k, rfl⟩ : ∃ m, k = m + 1 := ⟨k - 1, by omega⟩
  have hlt : i < (s.size : Int) := by omega
  by_cases hc : 32 ≤ bt s i ∧ bt s i ≤ 126
  ·have e : chanceryref1_Value.l0 (k + 1) s (s.size : Int) i = chanceryref1_Value.l0 k s (s.size : Int) (i + 1) := by
    simp only [chanceryref1_Value.l0]
    rw [if_pos hlt, if_pos h0, if_pos hlt, wrap_up h0 (by omega), if_neg (by omega), if_neg (by omega)]
   obtain ⟨b, hb, hi⟩ := ih k (i + 1) (by omega) (by omega) (by omega) (by omega)
   refine ⟨b, e.trans hb, hi.trans ⟨fun ⟨a1, a2, a3⟩ => ⟨a1, a2, fun j h2 h3 => ?_⟩, fun ⟨a1, a2, a3⟩ => ⟨a1, a2, fun j h2 h3 => a3 j (by omega) h3⟩⟩⟩
   rcases Int.lt_or_eq_of_le h2 with h4 | h4
   ·exact a3 j (by omega) h3
   ·subst h4; exact hc
  ·refine ⟨false, ?_, ⟨(fun h => by cases h), (fun h => absurd (h.2.2 i (Int.le_refl _) hlt) hc)⟩⟩
   simp only [chanceryref1_Value.l0]
   rw [if_pos hlt, if_pos h0, if_pos hlt]
   repeat' (first | rfl | split)
   all_goals (exfalso; omega)
theorem rval_ev (s : ByteArray) (hs : s.size ≤ 1099511627776) : ∃ b, Ev (fun k => chanceryref1_Value.f k s) b ∧ (b = true ↔ ValOK s) := by
 obtain ⟨b, hb, hi⟩ := rval_l0 s hs s.size (s.size + 1) 0 (by omega) (by omega) (by omega) (by omega)
 exact ⟨b, Ev.of (fun k => chanceryref1_Value.mono s k) (k := s.size + 1) hb, hi⟩
theorem val_l0 (s : ByteArray) (hs : s.size ≤ 1099511627776) (d : Nat) : ∀ (k : Nat) (i : Int), 0 ≤ i → i ≤ s.size → (s.size : Int) - i = d → d < k →
  ∃ b, attr_Value.l0 k s (s.size : Int) i = some b ∧ (b = true ↔ ∀ j : Int, i ≤ j → j < s.size → 32 ≤ bt s j ∧ bt s j ≤ 126) := by
 induction d with
 | zero =>
  intro k i h0 h1 hd hk
  obtain ⟨k, rfl⟩ : ∃ m, k = m + 1 := ⟨k - 1, by omega⟩
  simp only [attr_Value.l0]
  rw [if_neg (by omega)]
  exact ⟨true, rfl, ⟨fun _ j h2 h3 => by omega, fun _ => rfl⟩⟩
 | succ d ih =>
  intro k i h0 h1 hd hk
  obtain ⟨k, rfl⟩ : ∃ m, k = m + 1 := ⟨k - 1, by omega⟩
  have hlt : i < (s.size : Int) := by omega
  by_cases hc : 32 ≤ bt s i ∧ bt s i ≤ 126
  ·have e : attr_Value.l0 (k + 1) s (s.size : Int) i = attr_Value.l0 k s (s.size : Int) (i + 1) := by
    simp only [attr_Value.l0]
    rw [if_pos hlt, if_pos h0, if_pos hlt, wrap_up h0 (by omega), if_neg (by omega), if_neg (by omega)]
   obtain ⟨b, hb, hi⟩ := ih k (i + 1) (by omega) (by omega) (by omega) (by omega)
   refine ⟨b, e.trans hb, hi.trans ⟨fun h j h2 h3 => ?_, fun h j h2 h3 => h j (by omega) h3⟩⟩
   rcases Int.lt_or_eq_of_le h2 with h4 | h4
   ·exact h j (by omega) h3
   ·subst h4; exact hc
  ·refine ⟨false, ?_, ⟨(fun h => by cases h), (fun h => absurd (h i (Int.le_refl _) hlt) hc)⟩⟩
   simp only [attr_Value.l0]
   rw [if_pos hlt, if_pos h0, if_pos hlt]
   repeat' (first | rfl | split)
   all_goals (exfalso; omega)
theorem val_ev (s : ByteArray) (hs : s.size ≤ 1099511627776) : ∃ b, Ev (fun k => attr_Value.f k s) b ∧ (b = true ↔ ValOK s) := by
 have bad : ∀ k, attr_Value.j0 (k + 1) s true = some false := fun k => by simp only [attr_Value.j0]; rw [if_pos trivial]
 have fls : ¬ ValOK s → attr_Value.f 1 s = some false → ∃ b, Ev (fun k => attr_Value.f k s) b ∧ (b = true ↔ ValOK s) := fun h e => ⟨false, Ev.of (fun k => attr_Value.mono s k) e, ⟨(fun h => by cases h), (fun h' => absurd h' h)⟩⟩
 by_cases h0 : s.size = 0
 ·exact fls (fun h => by have := h.1; omega) (by simp only [attr_Value.f]; rw [if_pos (list_nil.2 h0)]; exact bad 0)
 have hn : ¬ s.toList = [] := fun h => h0 (list_nil.1 h)
 by_cases h1 : (s.size : Int) > 200
 ·exact fls (fun h => by have := h.2.1; omega) (by simp only [attr_Value.f]; rw [if_neg hn, decide_eq_true h1]; exact bad 0)
 obtain ⟨b, hb, hi⟩ := val_l0 s hs s.size (s.size + 1) 0 (by omega) (by omega) (by omega) (by omega)
 refine ⟨b, Ev.of (fun k => attr_Value.mono s k) (k := s.size + 2) ?_, hi.trans ⟨fun h => ⟨by omega, by omega, h⟩, fun h => h.2.2⟩⟩
 simp only [attr_Value.f]
 rw [if_neg hn, decide_eq_false h1]
 simp only [attr_Value.j0]
 rw [if_neg (by decide)]
 exact hb
end Go.Proofs.Ytdgemabmmomebaa.PDelta
end
section
namespace Go.Proofs.Ytdgemabmmomebaa.PDelta
open Go.RowKit Go.Proofs.YtdgemabmmomebaaW.PrintWords Go.Proofs.YtdgemabmmomebaaW.PrintLast Go.Proofs.YtdgemabmmomebaaW.PrintMore
attribute [local go_sem] max2_int min2_int max_two min_two max_three min_three max_four min_four
attribute [local go_sem high] Go.Proofs.Ytdgemabmmomebaa.Ord.leq_str Go.Proofs.Ytdgemabmmomebaa.Ord.gtr_str Go.Proofs.Ytdgemabmmomebaa.Ord.geq_str
theorem eqA38 (d : Nat) (w : World) (x0 y0 : ByteArray) (x1 y1 : ByteArray) :
  (Op.equalIn (d + 2) 38 (.agg #[.string x0, .string x1]) (.agg #[.string y0, .string y1])).run Try.prog w = .ok (x0.toList == y0.toList && (x1.toList == y1.toList)) w := by
 refine eqA_of Try.underlying38 (by kernel_rfl) ?_
 refine eqf_cons (by rfl) (by go_simp; rfl) (by go_simp; rfl) (by go_simp) ?_
 exact eqf_last (by rfl) (by go_simp; rfl) (by go_simp; rfl) (by go_simp)
end Go.Proofs.Ytdgemabmmomebaa.PDelta
end
section
namespace Go.Proofs.Ytdgemabmmomebaa.PDelta
open Go.RowKit Go.Proofs.YtdgemabmmomebaaW.PrintWords Go.Proofs.YtdgemabmmomebaaW.PrintLast Go.Proofs.YtdgemabmmomebaaW.PrintMore
attribute [local go_sem high] eqA38
def OutIs (w0 : World) (B : Nat) (out : List S38) (w : World) : Prop :=
 ∃ v, w.heap[B]? = some (.cells #[v] 32 (0, 0)) ∧ Kd.R k38 38 w w0.heap.size (fun _ => True) v out ∧ Below w0.heap.size w0 w
theorem OutIs.below {w0 w W : World} {B : Nat} {out : List S38} (h : OutIs w0 B out w) (hb : Below w.heap.size w W) : OutIs w0 B out W := by
 obtain ⟨v, h1, h2, h3⟩ := h
 exact ⟨v, blk_below h1 hb, Kd.R_below h2 hb, below_step h3 hb⟩
theorem own_cell {w0 W w1 : World} {B : Nat} {v : Value} {out : List S38} (hv : W.heap[B]? = some (.cells #[v] 32 (0, 0))) (hR : Kd.R k38 38 W w0.heap.size (fun _ => True) v out) (hg : W.grownBy w1 v.ownBlock) :
  w1.heap[B]? = some (.cells #[v] 32 (0, 0)) := blk_grown hv hg (Kd.R_ne hR hv (by decide))
theorem own_stored {w0 w1 : World} {B : Nat} {v v1 : Value} {out' : List S38} (h0 : w0.heap.size ≤ B) (hv : w1.heap[B]? = some (.cells #[v] 32 (0, 0))) (hR1 : Kd.R k38 38 w1 w0.heap.size (fun _ => True) v1 out') (hB1 : Below w0.heap.size w0 w1) :
  OutIs w0 B out' (w1.setCell ⟨B, 0, none⟩ v1) :=
 ⟨v1, blk_put hv 0 v1 rfl, Kd.R_set hR1 hv (by decide) 0 v1, below_set hB1 h0⟩
def nil38 : S38 := ⟨⟨#[]⟩, ⟨#[]⟩⟩
def rawV (out : List S38) (x y : S38) : List S38 := if y.f0.toList = [] then out ++ [x] else if y.f1.toList = [] then out else out ++ [y]
def changeV (out : List S38) (x y : S38) : List S38 := if y.f0.toList = [] then out ++ [⟨x.f0, ⟨#[]⟩⟩] else if x.f0.toList = y.f0.toList ∧ x.f1.toList = y.f1.toList then out else out ++ [y]
set_option maxRecDepth 100000 in
set_option maxHeartbeats 2000000 in
theorem raw1a (w0 : World) (B : Nat) (out : List S38) (x y : S38) (w : World) (h0 : w0.heap.size ≤ B) (h : OutIs w0 B out w) (hl : (out.length + 1) * 32 ≤ 140737488355328) (h1 : y.f0.toList = []) :
  Calls Try.prog 104 #[.agg #[.string x.f0, .string x.f1], .agg #[.string y.f0, .string y.f1], .pointer (some ⟨B, 0, none⟩)] w fun e w' => e = .returned (.tuple #[]) ∧ OutIs w0 B (out ++ [x]) w' := by
 obtain ⟨v, hv, hR, hb⟩ := h
 have hu38 := Try.underlying38
 have c1 : (y.f0.toList == ([] : List UInt8)) = true := beq_iff_eq.mpr h1
 clear h1
 have HR := Aside0.mk hR
 have HB := Aside0.mk hb
 have HV := Aside0.mk hv
 have hc0 : w.cell? ⟨B, 0, none⟩ = some v := (blk_cell hv 0).trans rfl
 have hB : B < w.heap.size := blk_lt hv
 have HL := Aside0.mk hl
 have H0 := Aside0.mk h0
 clear hR hb hv hl h0
 go_enter Try.func104, Try.ntmps104
 go_wp2_with (at_builtin; refine Kd.R_append k38 (w0 := w0) w0.heap.size rfl (.tmp 9) (.tmp 11) 32 38 (.agg #[.string ⟨#[]⟩, .string ⟨#[]⟩]) 32 rfl Try.underlying32 info38 rfl (by decide) (by decide) v out x _ (fun _ => True) (fun _ => False) rfl (by simp [Act.eval]) (k38_mkM _ _ _ _) (fun _ h => h.elim) (fun _ _ => trivial) (Kd.R_below HR.out (below_alloc (below_alloc (Below.refl _ _) _) _)) (below_step HB.out (below_alloc (below_alloc (Below.refl _ _) _) _)) (below_size (below_step HB.out (below_alloc (below_alloc (Below.refl _ _) _) _))) HL.out ?_)
 intro v1 w1 hR1 hB1 hg hat
 obtain ⟨A1, n1, rfl⟩ := Kd.R_slice hR1
 have hv1 := own_cell (w0 := w0) (blk_below HV.out (below_alloc (below_alloc (Below.refl _ _) _) _)) (Kd.R_below HR.out (below_alloc (below_alloc (Below.refl _ _) _) _)) hg
 have hS := Aside0.mk (own_stored H0.out hv1 hR1 hB1)
 have hc1 : w1.cell? ⟨B, 0, none⟩ = some v := (blk_cell hv1 0).trans rfl
 have hf1 := blk_frozen hv1 0
 clear hv1 hR1 hB1 hg hat
 go_wp2
 go_end0
 exact ⟨rfl, by simpa using hS.out⟩
set_option maxRecDepth 100000 in
set_option maxHeartbeats 2000000 in
theorem raw1b (w0 : World) (B : Nat) (out : List S38) (x y : S38) (w : World) (h0 : w0.heap.size ≤ B) (h : OutIs w0 B out w) (hl : (out.length + 1) * 32 ≤ 140737488355328) (h1 : ¬ y.f0.toList = []) (h2 : y.f1.toList = []) :
  Calls Try.prog 104 #[.agg #[.string x.f0, .string x.f1], .agg #[.string y.f0, .string y.f1], .pointer (some ⟨B, 0, none⟩)] w fun e w' => e = .returned (.tuple #[]) ∧ OutIs w0 B (out) w' := by
 obtain ⟨v, hv, hR, hb⟩ := h
 have hu38 := Try.underlying38
 have c1 : (y.f0.toList == ([] : List UInt8)) = false := beq_eq_false_iff_ne.mpr h1
 clear h1
 have c2 : (!y.f1.toList.isEmpty) = false := by rw [h2]; rfl
 clear h2
 have HR := Aside0.mk hR
 have HB := Aside0.mk hb
 have HV := Aside0.mk hv
 have hc0 : w.cell? ⟨B, 0, none⟩ = some v := (blk_cell hv 0).trans rfl
 have hB : B < w.heap.size := blk_lt hv
 have HL := Aside0.mk hl
 have H0 := Aside0.mk h0
 clear hR hb hv hl h0
 go_enter Try.func104, Try.ntmps104
 go_wp2
 go_end0
 exact ⟨rfl, v, blk_below HV.out (below_alloc (below_alloc (Below.refl _ _) _) _), Kd.R_below HR.out (below_alloc (below_alloc (Below.refl _ _) _) _), below_step HB.out (below_alloc (below_alloc (Below.refl _ _) _) _)⟩
set_option maxRecDepth 100000 in
set_option maxHeartbeats 2000000 in
theorem raw1c (w0 : World) (B : Nat) (out : List S38) (x y : S38) (w : World) (h0 : w0.heap.size ≤ B) (h : OutIs w0 B out w) (hl : (out.length + 1) * 32 ≤ 140737488355328) (h1 : ¬ y.f0.toList = []) (h2 : ¬ y.f1.toList = []) :
  Calls Try.prog 104 #[.agg #[.string x.f0, .string x.f1], .agg #[.string y.f0, .string y.f1], .pointer (some ⟨B, 0, none⟩)] w fun e w' => e = .returned (.tuple #[]) ∧ OutIs w0 B (out ++ [y]) w' := by
 obtain ⟨v, hv, hR, hb⟩ := h
 have hu38 := Try.underlying38
 have c1 : (y.f0.toList == ([] : List UInt8)) = false := beq_eq_false_iff_ne.mpr h1
 clear h1
 have c2 : (!y.f1.toList.isEmpty) = true := by simpa using h2
 clear h2
 have HR := Aside0.mk hR
 have HB := Aside0.mk hb
 have HV := Aside0.mk hv
 have hc0 : w.cell? ⟨B, 0, none⟩ = some v := (blk_cell hv 0).trans rfl
 have hB : B < w.heap.size := blk_lt hv
 have HL := Aside0.mk hl
 have H0 := Aside0.mk h0
 clear hR hb hv hl h0
 go_enter Try.func104, Try.ntmps104
 go_wp2_with (at_builtin; refine Kd.R_append k38 (w0 := w0) w0.heap.size rfl (.tmp 17) (.tmp 19) 32 38 (.agg #[.string ⟨#[]⟩, .string ⟨#[]⟩]) 32 rfl Try.underlying32 info38 rfl (by decide) (by decide) v out y _ (fun _ => True) (fun _ => False) rfl (by simp [Act.eval]) (k38_mkM _ _ _ _) (fun _ h => h.elim) (fun _ _ => trivial) (Kd.R_below HR.out (below_alloc (below_alloc (Below.refl _ _) _) _)) (below_step HB.out (below_alloc (below_alloc (Below.refl _ _) _) _)) (below_size (below_step HB.out (below_alloc (below_alloc (Below.refl _ _) _) _))) HL.out ?_)
 intro v1 w1 hR1 hB1 hg hat
 obtain ⟨A1, n1, rfl⟩ := Kd.R_slice hR1
 have hv1 := own_cell (w0 := w0) (blk_below HV.out (below_alloc (below_alloc (Below.refl _ _) _) _)) (Kd.R_below HR.out (below_alloc (below_alloc (Below.refl _ _) _) _)) hg
 have hS := Aside0.mk (own_stored H0.out hv1 hR1 hB1)
 have hc1 : w1.cell? ⟨B, 0, none⟩ = some v := (blk_cell hv1 0).trans rfl
 have hf1 := blk_frozen hv1 0
 clear hv1 hR1 hB1 hg hat
 go_wp2
 go_end0
 exact ⟨rfl, by simpa using hS.out⟩
set_option maxRecDepth 100000 in
set_option maxHeartbeats 2000000 in
theorem change1a (w0 : World) (B : Nat) (out : List S38) (x y : S38) (w : World) (h0 : w0.heap.size ≤ B) (h : OutIs w0 B out w) (hl : (out.length + 1) * 32 ≤ 140737488355328) (h1 : y.f0.toList = []) :
  Calls Try.prog 105 #[.agg #[.string x.f0, .string x.f1], .agg #[.string y.f0, .string y.f1], .pointer (some ⟨B, 0, none⟩)] w fun e w' => e = .returned (.tuple #[]) ∧ OutIs w0 B (out ++ [⟨x.f0, ⟨#[]⟩⟩]) w' := by
 obtain ⟨v, hv, hR, hb⟩ := h
 have hu38 := Try.underlying38
 have c1 : (y.f0.toList == ([] : List UInt8)) = true := beq_iff_eq.mpr h1
 clear h1
 have HR := Aside0.mk hR
 have HB := Aside0.mk hb
 have HV := Aside0.mk hv
 have hc0 : w.cell? ⟨B, 0, none⟩ = some v := (blk_cell hv 0).trans rfl
 have hB : B < w.heap.size := blk_lt hv
 have HL := Aside0.mk hl
 have H0 := Aside0.mk h0
 clear hR hb hv hl h0
 go_enter Try.func105, Try.ntmps105
 go_wp2_with (at_builtin; refine Kd.R_append k38 (w0 := w0) w0.heap.size rfl (.tmp 9) (.tmp 13) 32 38 (.agg #[.string ⟨#[]⟩, .string ⟨#[]⟩]) 32 rfl Try.underlying32 info38 rfl (by decide) (by decide) v out ⟨x.f0, ⟨#[]⟩⟩ _ (fun _ => True) (fun _ => False) rfl (by simp [Act.eval]) (k38_mkM _ _ _ _) (fun _ h => h.elim) (fun _ _ => trivial) (Kd.R_below HR.out (below_alloc (below_alloc (Below.refl _ _) _) _)) (below_step HB.out (below_alloc (below_alloc (Below.refl _ _) _) _)) (below_size (below_step HB.out (below_alloc (below_alloc (Below.refl _ _) _) _))) HL.out ?_)
 intro v1 w1 hR1 hB1 hg hat
 obtain ⟨A1, n1, rfl⟩ := Kd.R_slice hR1
 have hv1 := own_cell (w0 := w0) (blk_below HV.out (below_alloc (below_alloc (Below.refl _ _) _) _)) (Kd.R_below HR.out (below_alloc (below_alloc (Below.refl _ _) _) _)) hg
 have hS := Aside0.mk (own_stored H0.out hv1 hR1 hB1)
 have hc1 : w1.cell? ⟨B, 0, none⟩ = some v := (blk_cell hv1 0).trans rfl
 have hf1 := blk_frozen hv1 0
 clear hv1 hR1 hB1 hg hat
 go_wp2
 go_end0
 exact ⟨rfl, by simpa using hS.out⟩
set_option maxRecDepth 100000 in
set_option maxHeartbeats 2000000 in
theorem change1b (w0 : World) (B : Nat) (out : List S38) (x y : S38) (w : World) (h0 : w0.heap.size ≤ B) (h : OutIs w0 B out w) (hl : (out.length + 1) * 32 ≤ 140737488355328) (h1 : ¬ y.f0.toList = []) (h2 : x.f0.toList = y.f0.toList ∧ x.f1.toList = y.f1.toList) :
  Calls Try.prog 105 #[.agg #[.string x.f0, .string x.f1], .agg #[.string y.f0, .string y.f1], .pointer (some ⟨B, 0, none⟩)] w fun e w' => e = .returned (.tuple #[]) ∧ OutIs w0 B (out) w' := by
 obtain ⟨v, hv, hR, hb⟩ := h
 have hu38 := Try.underlying38
 have c1 : (y.f0.toList == ([] : List UInt8)) = false := beq_eq_false_iff_ne.mpr h1
 clear h1
 have c2 : (!x.f0.toList == y.f0.toList || !x.f1.toList == y.f1.toList) = false := by rw [h2.1, h2.2]; simp
 clear h2
 have HR := Aside0.mk hR
 have HB := Aside0.mk hb
 have HV := Aside0.mk hv
 have hc0 : w.cell? ⟨B, 0, none⟩ = some v := (blk_cell hv 0).trans rfl
 have hB : B < w.heap.size := blk_lt hv
 have HL := Aside0.mk hl
 have H0 := Aside0.mk h0
 clear hR hb hv hl h0
 go_enter Try.func105, Try.ntmps105
 go_wp2
 go_end0
 exact ⟨rfl, v, blk_below HV.out (below_alloc (below_alloc (Below.refl _ _) _) _), Kd.R_below HR.out (below_alloc (below_alloc (Below.refl _ _) _) _), below_step HB.out (below_alloc (below_alloc (Below.refl _ _) _) _)⟩
set_option maxRecDepth 100000 in
set_option maxHeartbeats 2000000 in
theorem change1c (w0 : World) (B : Nat) (out : List S38) (x y : S38) (w : World) (h0 : w0.heap.size ≤ B) (h : OutIs w0 B out w) (hl : (out.length + 1) * 32 ≤ 140737488355328) (h1 : ¬ y.f0.toList = []) (h2 : ¬ (x.f0.toList = y.f0.toList ∧ x.f1.toList = y.f1.toList)) :
  Calls Try.prog 105 #[.agg #[.string x.f0, .string x.f1], .agg #[.string y.f0, .string y.f1], .pointer (some ⟨B, 0, none⟩)] w fun e w' => e = .returned (.tuple #[]) ∧ OutIs w0 B (out ++ [y]) w' := by
 obtain ⟨v, hv, hR, hb⟩ := h
 have hu38 := Try.underlying38
 have c1 : (y.f0.toList == ([] : List UInt8)) = false := beq_eq_false_iff_ne.mpr h1
 clear h1
 have c2 : (!x.f0.toList == y.f0.toList || !x.f1.toList == y.f1.toList) = true := by by_cases e1 : x.f0.toList = y.f0.toList <;> by_cases e2 : x.f1.toList = y.f1.toList <;> simp [e1, e2] ; exact absurd ⟨e1, e2⟩ h2
 clear h2
 have HR := Aside0.mk hR
 have HB := Aside0.mk hb
 have HV := Aside0.mk hv
 have hc0 : w.cell? ⟨B, 0, none⟩ = some v := (blk_cell hv 0).trans rfl
 have hB : B < w.heap.size := blk_lt hv
 have HL := Aside0.mk hl
 have H0 := Aside0.mk h0
 clear hR hb hv hl h0
 go_enter Try.func105, Try.ntmps105
 go_wp2_with (at_builtin; refine Kd.R_append k38 (w0 := w0) w0.heap.size rfl (.tmp 19) (.tmp 21) 32 38 (.agg #[.string ⟨#[]⟩, .string ⟨#[]⟩]) 32 rfl Try.underlying32 info38 rfl (by decide) (by decide) v out y _ (fun _ => True) (fun _ => False) rfl (by simp [Act.eval]) (k38_mkM _ _ _ _) (fun _ h => h.elim) (fun _ _ => trivial) (Kd.R_below HR.out (below_alloc (below_alloc (Below.refl _ _) _) _)) (below_step HB.out (below_alloc (below_alloc (Below.refl _ _) _) _)) (below_size (below_step HB.out (below_alloc (below_alloc (Below.refl _ _) _) _))) HL.out ?_)
 intro v1 w1 hR1 hB1 hg hat
 obtain ⟨A1, n1, rfl⟩ := Kd.R_slice hR1
 have hv1 := own_cell (w0 := w0) (blk_below HV.out (below_alloc (below_alloc (Below.refl _ _) _) _)) (Kd.R_below HR.out (below_alloc (below_alloc (Below.refl _ _) _) _)) hg
 have hS := Aside0.mk (own_stored H0.out hv1 hR1 hB1)
 have hc1 : w1.cell? ⟨B, 0, none⟩ = some v := (blk_cell hv1 0).trans rfl
 have hf1 := blk_frozen hv1 0
 clear hv1 hR1 hB1 hg hat
 go_wp2
 go_end0
 exact ⟨rfl, by simpa using hS.out⟩
end Go.Proofs.Ytdgemabmmomebaa.PDelta
end
section
namespace Go.Proofs.Ytdgemabmmomebaa.PDelta
open Go.RowKit Go.Proofs.YtdgemabmmomebaaW.PrintWords Go.Proofs.YtdgemabmmomebaaW.PrintLast Go.Proofs.YtdgemabmmomebaaW.PrintMore
abbrev ltS (x y : S38) : Bool := Op.bytesLess x.f0.toList y.f0.toList
def bothL (V : List S38 → S38 → S38 → List S38) (s : List S38) : List S38 → List S38 → List S38
 | [], [] => s
 | x :: a, [] => bothL V (V s x z38) a []
 | [], y :: b => bothL V (V s z38 y) [] b
 | x :: a, y :: b => if ltS x y = true then bothL V (V s x z38) a (y :: b) else if ltS y x = true then bothL V (V s z38 y) (x :: a) b else bothL V (V s x y) a b
termination_by a b => a.length + b.length
theorem drop_cons (l : List S38) (i : Nat) (h : i < l.length) : l.drop i = rd_T38 l i :: l.drop (i + 1) := by
 rw [List.drop_eq_getElem_cons h]
 simp [rd_T38, List.getD_eq_getElem?_getD, List.getElem?_eq_getElem h]
structure BothAt (V : List S38 → S38 → S38 → List S38) (w0 : World) (B : Nat) (a b r : List S38) (i j : Nat) (o : List S38) (w : World) : Prop where
 ha : i ≤ a.length
 hb : j ≤ b.length
 out : OutIs w0 B o w
 eq : bothL V o (a.drop i) (b.drop j) = r
 le : (o.length + (a.length - i) + (b.length - j)) * 32 ≤ 140737488355328
section
variable {V : List S38 → S38 → S38 → List S38} {w0 w w' : World} {B : Nat} {a b r o : List S38} {i j : Nat}
theorem BothAt.one (h : BothAt V w0 B a b r i j o w) (h1 : i < a.length ∨ j < b.length) : (o.length + 1) * 32 ≤ 140737488355328 := by
 have := h.le
 have := h.ha
 have := h.hb
 omega
theorem BothAt.left (hV : ∀ out x y, (V out x y).length ≤ out.length + 1) (h : BothAt V w0 B a b r i j o w) (h1 : i < a.length) (h2 : j = b.length ∨ j < b.length ∧ ltS (rd_T38 a i) (rd_T38 b j) = true) (hO : OutIs w0 B (V o (rd_T38 a i) nil38) w') :
  BothAt V w0 B a b r (i + 1) j (V o (rd_T38 a i) nil38) w' := by
 refine ⟨h1, h.hb, hO, ?_, ?_⟩
 ·rw [← h.eq, drop_cons a i h1]
  rcases h2 with h2 | ⟨h2, h3⟩
  ·rw [List.drop_eq_nil_of_le (by omega : b.length ≤ j)]
   conv => rhs; rw [bothL.eq_def]
   rfl
  ·rw [drop_cons b j h2]
   conv => rhs; rw [bothL]
   rw [if_pos h3]
   rfl
 ·have := hV o (rd_T38 a i) nil38
  have := h.le
  omega
theorem BothAt.right (hV : ∀ out x y, (V out x y).length ≤ out.length + 1) (h : BothAt V w0 B a b r i j o w) (h1 : j < b.length) (h2 : i = a.length ∨ i < a.length ∧ ltS (rd_T38 a i) (rd_T38 b j) = false ∧ ltS (rd_T38 b j) (rd_T38 a i) = true) (hO : OutIs w0 B (V o nil38 (rd_T38 b j)) w') :
  BothAt V w0 B a b r i (j + 1) (V o nil38 (rd_T38 b j)) w' := by
 refine ⟨h.ha, h1, hO, ?_, ?_⟩
 ·rw [← h.eq, drop_cons b j h1]
  rcases h2 with h2 | ⟨h2, h3, h4⟩
  ·rw [List.drop_eq_nil_of_le (by omega : a.length ≤ i)]
   conv => rhs; rw [bothL.eq_def]
   rfl
  ·rw [drop_cons a i h2]
   conv => rhs; rw [bothL]
   rw [if_neg (by rw [h3]; decide), if_pos h4]
   rfl
 ·have := hV o nil38 (rd_T38 b j)
  have := h.le
  omega
theorem BothAt.mid (hV : ∀ out x y, (V out x y).length ≤ out.length + 1) (h : BothAt V w0 B a b r i j o w) (h1 : i < a.length) (h2 : j < b.length) (h3 : ltS (rd_T38 a i) (rd_T38 b j) = false) (h4 : ltS (rd_T38 b j) (rd_T38 a i) = false) (hO : OutIs w0 B (V o (rd_T38 a i) (rd_T38 b j)) w') :
  BothAt V w0 B a b r (i + 1) (j + 1) (V o (rd_T38 a i) (rd_T38 b j)) w' := by
 refine ⟨h1, h2, hO, ?_, ?_⟩
 ·rw [← h.eq, drop_cons a i h1, drop_cons b j h2]
  conv => rhs; rw [bothL]
  rw [if_neg (by rw [h3]; decide), if_neg (by rw [h4]; decide)]
 ·have := hV o (rd_T38 a i) (rd_T38 b j)
  have := h.le
  omega
theorem BothAt.done (h : BothAt V w0 B a b r i j o w) (h1 : ¬ i < a.length) (h2 : ¬ j < b.length) : OutIs w0 B r w := by
 have e := h.eq
 rw [List.drop_eq_nil_of_le (by omega), List.drop_eq_nil_of_le (by omega), bothL] at e
 rw [← e]
 exact h.out
end
set_option maxRecDepth 100000 in
set_option maxHeartbeats 8000000 in
theorem both_calls (g : Nat) (hent : ∀ (args : Array Value) (w : World), (callFunc g args).run Try.prog w = .ok (.enter g args) w) (V : List S38 → S38 → S38 → List S38)
  (hcl : ∀ (w0 : World) (B : Nat) (out : List S38) (x y : S38) (w : World), w0.heap.size ≤ B → OutIs w0 B out w → (out.length + 1) * 32 ≤ 140737488355328 →
   Calls Try.prog g #[.agg #[.string x.f0, .string x.f1], .agg #[.string y.f0, .string y.f1], .pointer (some ⟨B, 0, none⟩)] w fun e w' => e = .returned (.tuple #[]) ∧ OutIs w0 B (V out x y) w')
  (hV : ∀ out x y, (V out x y).length ≤ out.length + 1)
  (w0 : World) (A0 : Option Addr) (c0 : Nat) (a : List S38) (A1 : Option Addr) (c1 : Nat) (b : List S38) (B : Nat) (w : World)
  (hr0 : Kd.C k38 w0 A0 a.length a) (hr1 : Kd.C k38 w0 A1 b.length b) (h0 : w0.heap.size ≤ B) (h : OutIs w0 B [] w) (hl : (a.length + b.length) * 32 ≤ 140737488355328) :
  Calls Try.prog 103 #[.slice A0 a.length c0, .slice A1 b.length c1, .func (.func g) #[] #[.pointer (some ⟨B, 0, none⟩)]] w fun e w' => e = .returned (.tuple #[]) ∧ OutIs w0 B (bothL V [] a b) w' := by
 have hu38 := Try.underlying38
 obtain ⟨r, hr⟩ : ∃ r, r = bothL V [] a b := ⟨_, rfl⟩
 rw [← hr]
 have hs : Aside0 (BothAt V w0 B a b r 0 0 [] w) := ⟨⟨Nat.zero_le _, Nat.zero_le _, h, by simpa using hr.symm, by simpa using hl⟩⟩
 have hla : a.length ≤ 4398046511104 := by omega
 have hlb : b.length ≤ 4398046511104 := by omega
 have HR0 := Aside0.mk hr0
 have HR1 := Aside0.mk hr1
 have H0 := Aside0.mk h0
 have HCL := Aside0.mk hcl
 have HVV := Aside0.mk hV
 clear hr0 hr1 hr h hl h0 hcl hV
 go_enter Try.func103, Try.ntmps103
 go_wp2
 go_loopg [6, 7] (a.length + b.length) (fun m v6 v7 wr => ∃ (i j : Nat) (o : List S38), v6 = .int .i64 i ∧ v7 = .int .i64 j ∧ Aside0 (BothAt V w0 B a b r i j o wr) ∧ Aside0 (m = (a.length - i) + (b.length - j)))
 case atStart => exact ⟨0, 0, [], rfl, rfl, hs, ⟨by simp⟩⟩
 case round =>
  clear hs
  obtain ⟨i, j, o, rfl, rfl, HS, HM⟩ := hrel
  obtain ⟨v, hv, hR, hbel⟩ := HS.out.out
  have HB := Aside0.mk hbel
  clear hv hR hbel
  have hia := HS.out.ha
  have hjb := HS.out.hb
  by_cases c1 : i < a.length
  ·have f1 : decide ((i : Int) < (a.length : Int)) = true := decide_eq_true (by omega)
   have f1' : decide (i < a.length) = true := decide_eq_true c1
   have f3 : ((i : Int) == (a.length : Int)) = false := beq_eq_false_iff_ne.mpr (by omega)
   have f3' : (i == a.length) = false := beq_eq_false_iff_ne.mpr (by omega)
   obtain ⟨ad0, e0, hx0, hx1⟩ := at_T38 HR0.out (i : Int) (by omega) (by omega)
   cases e0
   replace hx0 := (HB.out.cell (World.block_lt_of_cell? w0 _ hx0)).trans hx0
   replace hx1 := (HB.out.cell (World.block_lt_of_cell? w0 _ hx1)).trans hx1
   simp only [Int.toNat_natCast] at hx0 hx1
   by_cases c2 : j < b.length
   ·have f2 : decide ((j : Int) < (b.length : Int)) = true := decide_eq_true (by omega)
    have f2' : decide (j < b.length) = true := decide_eq_true c2
    have f4 : ((j : Int) == (b.length : Int)) = false := beq_eq_false_iff_ne.mpr (by omega)
    have f4' : (j == b.length) = false := beq_eq_false_iff_ne.mpr (by omega)
    obtain ⟨ad1, e1, hy0, hy1⟩ := at_T38 HR1.out (j : Int) (by omega) (by omega)
    cases e1
    replace hy0 := (HB.out.cell (World.block_lt_of_cell? w0 _ hy0)).trans hy0
    replace hy1 := (HB.out.cell (World.block_lt_of_cell? w0 _ hy1)).trans hy1
    simp only [Int.toNat_natCast] at hy0 hy1
    cases l1 : ltS (rd_T38 a i) (rd_T38 b j) with
    | true =>
     go_wp2
     go_quiet (fail)
     go_wp2_with (fail)
     refine (HCL.out w0 B o (rd_T38 a i) (nil38) _ H0.out (HS.out.out.below (pw_below_drewN (Below.refl _ _) _)) (HS.out.one (by omega))).mono ?_
     rintro e w' ⟨rfl, hO'⟩
     have HS' := Aside0.mk (BothAt.left HVV.out HS.out c1 (.inr ⟨c2, l1⟩) hO')
     have hm : (a.length - (i + 1)) + (b.length - j) < gk := by have := HM.out; omega
     clear hO' HS HB
     go_wp2
     go_roundg ((a.length - (i + 1)) + (b.length - j))
     case measure => exact hm
     case rel => exact ⟨(i + 1), j, _, by first | rfl | go_num, by first | rfl | go_num, HS', ⟨rfl⟩⟩
    | false =>
     cases l2 : ltS (rd_T38 b j) (rd_T38 a i) with
     | true =>
      go_wp2
      go_quiet (fail)
      go_wp2
      go_quiet (fail)
      go_wp2_with (fail)
      refine (HCL.out w0 B o (nil38) (rd_T38 b j) _ H0.out (HS.out.out.below (pw_below_drewN (Below.refl _ _) _)) (HS.out.one (by omega))).mono ?_
      rintro e w' ⟨rfl, hO'⟩
      have HS' := Aside0.mk (BothAt.right HVV.out HS.out c2 (.inr ⟨c1, l1, l2⟩) hO')
      have hm : (a.length - i) + (b.length - (j + 1)) < gk := by have := HM.out; omega
      clear hO' HS HB
      go_wp2
      go_roundg ((a.length - i) + (b.length - (j + 1)))
      case measure => exact hm
      case rel => exact ⟨i, (j + 1), _, by first | rfl | go_num, by first | rfl | go_num, HS', ⟨rfl⟩⟩
     | false =>
      go_wp2
      go_quiet (fail)
      go_wp2
      go_quiet (fail)
      go_wp2
      refine wp_region_still_tail 9 (by kernel_rfl) (by kernel_rfl) ?_
      simp only [List.take_succ_cons, List.take_zero, List.drop_succ_cons, List.drop_zero]
      change wpStill _ _ (World.drew _) (fun a' => wpList _ _ _ _ a' (World.drew _)) _ _
      repeat still_step
      refine wpStill_nil ?_
      go_wp2_with (fail)
      refine (HCL.out w0 B o (rd_T38 a i) (rd_T38 b j) _ H0.out (HS.out.out.below (pw_below_drewN (Below.refl _ _) _)) (HS.out.one (by omega))).mono ?_
      rintro e w' ⟨rfl, hO'⟩
      have HS' := Aside0.mk (BothAt.mid HVV.out HS.out c1 c2 l1 l2 hO')
      have hm : (a.length - (i + 1)) + (b.length - (j + 1)) < gk := by have := HM.out; omega
      clear hO' HS HB
      go_wp2
      go_roundg ((a.length - (i + 1)) + (b.length - (j + 1)))
      case measure => exact hm
      case rel => exact ⟨(i + 1), (j + 1), _, by first | rfl | go_num, by first | rfl | go_num, HS', ⟨rfl⟩⟩
   ·obtain rfl : j = b.length := by omega
    have f4 : ((b.length : Int) == (b.length : Int)) = true := beq_iff_eq.mpr rfl
    have f4' : (b.length == b.length) = true := beq_iff_eq.mpr rfl
    go_wp2
    go_quiet (fail)
    go_wp2_with (fail)
    refine (HCL.out w0 B o (rd_T38 a i) (nil38) _ H0.out (HS.out.out.below (pw_below_drewN (Below.refl _ _) _)) (HS.out.one (by omega))).mono ?_
    rintro e w' ⟨rfl, hO'⟩
    have HS' := Aside0.mk (BothAt.left HVV.out HS.out c1 (.inl rfl) hO')
    have hm : (a.length - (i + 1)) + (b.length - b.length) < gk := by have := HM.out; omega
    clear hO' HS HB
    go_wp2
    go_roundg ((a.length - (i + 1)) + (b.length - b.length))
    case measure => exact hm
    case rel => exact ⟨(i + 1), b.length, _, by first | rfl | go_num, by first | rfl | go_num, HS', ⟨rfl⟩⟩
  ·have f1 : decide ((i : Int) < (a.length : Int)) = false := decide_eq_false (by omega)
   have f1' : decide (i < a.length) = false := decide_eq_false c1
   obtain rfl : i = a.length := by omega
   have f3 : ((a.length : Int) == (a.length : Int)) = true := beq_iff_eq.mpr rfl
   have f3' : (a.length == a.length) = true := beq_iff_eq.mpr rfl
   by_cases c2 : j < b.length
   ·have f2 : decide ((j : Int) < (b.length : Int)) = true := decide_eq_true (by omega)
    have f2' : decide (j < b.length) = true := decide_eq_true c2
    have f4 : ((j : Int) == (b.length : Int)) = false := beq_eq_false_iff_ne.mpr (by omega)
    have f4' : (j == b.length) = false := beq_eq_false_iff_ne.mpr (by omega)
    obtain ⟨ad1, e1, hy0, hy1⟩ := at_T38 HR1.out (j : Int) (by omega) (by omega)
    cases e1
    replace hy0 := (HB.out.cell (World.block_lt_of_cell? w0 _ hy0)).trans hy0
    replace hy1 := (HB.out.cell (World.block_lt_of_cell? w0 _ hy1)).trans hy1
    simp only [Int.toNat_natCast] at hy0 hy1
    go_wp2
    go_quiet (fail)
    go_wp2
    go_quiet (fail)
    go_wp2_with (fail)
    refine (HCL.out w0 B o (nil38) (rd_T38 b j) _ H0.out (HS.out.out.below (pw_below_drewN (Below.refl _ _) _)) (HS.out.one (by omega))).mono ?_
    rintro e w' ⟨rfl, hO'⟩
    have HS' := Aside0.mk (BothAt.right HVV.out HS.out c2 (.inl rfl) hO')
    have hm : (a.length - a.length) + (b.length - (j + 1)) < gk := by have := HM.out; omega
    clear hO' HS HB
    go_wp2
    go_roundg ((a.length - a.length) + (b.length - (j + 1)))
    case measure => exact hm
    case rel => exact ⟨a.length, (j + 1), _, by first | rfl | go_num, by first | rfl | go_num, HS', ⟨rfl⟩⟩
   ·have f2 : decide ((j : Int) < (b.length : Int)) = false := decide_eq_false (by omega)
    have f2' : decide (j < b.length) = false := decide_eq_false c2
    have HD := Aside0.mk (HS.out.done c1 c2)
    go_wp2
    go_end0
    exact ⟨rfl, by first | exact HD.out | exact HD.out.below (pw_below_drewN (Below.refl _ _) _)⟩
theorem enters_any {g : Nat} {fn : Func} {c : Code} (hf : Try.prog.funcs[g]? = some fn) (hname : (fn.name == "runtime.NumGoroutine") = false) (hb : fn.body = some c) (args : Array Value) (w : World) :
  (callFunc g args).run Try.prog w = .ok (.enter g args) w := by
 have h1 : fn.name ≠ "runtime.NumGoroutine" := by simpa using hname
 simp [callFunc, hf, h1, hb, mark]
theorem outis_made (w : World) : OutIs w w.heap.size [] (w.alloc (.cells #[.slice none 0 0] 32)) :=
 ⟨.slice none 0 0, blk_new w _, Kd.R_nil _ _ _ _ _, below_alloc (Below.refl _ _) _⟩
theorem raw_any (w0 : World) (B : Nat) (out : List S38) (x y : S38) (w : World) (h0 : w0.heap.size ≤ B) (h : OutIs w0 B out w) (hl : (out.length + 1) * 32 ≤ 140737488355328) :
  Calls Try.prog 104 #[.agg #[.string x.f0, .string x.f1], .agg #[.string y.f0, .string y.f1], .pointer (some ⟨B, 0, none⟩)] w fun e w' => e = .returned (.tuple #[]) ∧ OutIs w0 B (rawV out x y) w' := by
 by_cases h1 : y.f0.toList = []
 ·unfold rawV; rw [if_pos h1]; exact raw1a w0 B out x y w h0 h hl h1
 ·by_cases h2 : y.f1.toList = []
  ·unfold rawV; rw [if_neg h1, if_pos h2]; exact raw1b w0 B out x y w h0 h hl h1 h2
  ·unfold rawV; rw [if_neg h1, if_neg h2]; exact raw1c w0 B out x y w h0 h hl h1 h2
theorem rawV_len (out : List S38) (x y : S38) : (rawV out x y).length ≤ out.length + 1 := by
 unfold rawV
 repeat (first | split | simp)
def attr_Raw.f (l0 l1 : List S38) : Option (List S38) := if (l0.length + l1.length) * 32 ≤ 140737488355328 then some (bothL rawV [] l0 l1) else none
set_option maxRecDepth 100000 in
set_option maxHeartbeats 4000000 in
theorem attr_Raw.calls (A0 : Option Addr) (c0 : Nat) (l0 : List (S38)) (A1 : Option Addr) (c1 : Nat) (l1 : List (S38)) (r : List (S38)) (w : World) (hr0 : Kd.C k38 w A0 l0.length l0) (hc0 : l0.length ≤ c0) (hr1 : Kd.C k38 w A1 l1.length l1) (hc1 : l1.length ≤ c1) (h : attr_Raw.f l0 l1 = some r) :
  Calls Try.prog 66 #[.slice A0 l0.length c0, .slice A1 l1.length c1] w fun e w' => ∃ v0_ : Value, e = .returned (v0_) ∧ Kd.R k38 38 w' w.heap.size (fun _ => True) v0_ r ∧ Below w.heap.size w w' := by
 unfold attr_Raw.f at h
 have hl : (l0.length + l1.length) * 32 ≤ 140737488355328 := by
  by_cases hl : (l0.length + l1.length) * 32 ≤ 140737488355328
  ·exact hl
  ·rw [if_neg hl] at h; cases h
 rw [if_pos hl] at h
 have HC := Aside0.mk (both_calls 104 (enters_any Try.func104 rfl rfl) rawV raw_any rawV_len w A0 c0 l0 A1 c1 l1 w.heap.size _ hr0 hr1 (Nat.le_refl _) (outis_made w) hl)
 have hmf : ∀ (fn : Fn) (first cap : Array Value) (w : World), (Instr.makeFunc fn first cap).run Try.prog w = .ok (.func fn first cap) w := fun _ _ _ _ => rfl
 have HR := Aside0.mk (Option.some.inj h)
 clear hr0 hr1 hc0 hc1 hl h
 go_enter Try.func66, Try.ntmps66
 go_wp2_with (go_at_call 103; refine HC.out.mono ?_)
 rintro e w' ⟨rfl, v, hv, hR, hB⟩
 obtain ⟨A2, c2, hv2⟩ := Kd.R_slice hR
 have hc : w'.cell? ⟨w.heap.size, 0, none⟩ = some v := (blk_cell hv 0).trans rfl
 have hR' := Aside0.mk hR
 have hB' := Aside0.mk hB
 rw [hv2] at hc
 have HV := Aside0.mk hv2
 clear hv hR hB hv2
 go_wp2
 go_ret
 exact ⟨v, by rw [HV.out]; rfl, by rw [← HR.out]; exact hR'.out, hB'.out⟩
theorem change_any (w0 : World) (B : Nat) (out : List S38) (x y : S38) (w : World) (h0 : w0.heap.size ≤ B) (h : OutIs w0 B out w) (hl : (out.length + 1) * 32 ≤ 140737488355328) :
  Calls Try.prog 105 #[.agg #[.string x.f0, .string x.f1], .agg #[.string y.f0, .string y.f1], .pointer (some ⟨B, 0, none⟩)] w fun e w' => e = .returned (.tuple #[]) ∧ OutIs w0 B (changeV out x y) w' := by
 by_cases h1 : y.f0.toList = []
 ·unfold changeV; rw [if_pos h1]; exact change1a w0 B out x y w h0 h hl h1
 ·by_cases h2 : x.f0.toList = y.f0.toList ∧ x.f1.toList = y.f1.toList
  ·unfold changeV; rw [if_neg h1, if_pos h2]; exact change1b w0 B out x y w h0 h hl h1 h2
  ·unfold changeV; rw [if_neg h1, if_neg h2]; exact change1c w0 B out x y w h0 h hl h1 h2
theorem changeV_len (out : List S38) (x y : S38) : (changeV out x y).length ≤ out.length + 1 := by
 unfold changeV
 repeat (first | split | simp)
def attr_Change.f (l0 l1 : List S38) : Option (List S38) := if (l0.length + l1.length) * 32 ≤ 140737488355328 then some (bothL changeV [] l0 l1) else none
set_option maxRecDepth 100000 in
set_option maxHeartbeats 4000000 in
theorem attr_Change.calls (A0 : Option Addr) (c0 : Nat) (l0 : List (S38)) (A1 : Option Addr) (c1 : Nat) (l1 : List (S38)) (r : List (S38)) (w : World) (hr0 : Kd.C k38 w A0 l0.length l0) (hc0 : l0.length ≤ c0) (hr1 : Kd.C k38 w A1 l1.length l1) (hc1 : l1.length ≤ c1) (h : attr_Change.f l0 l1 = some r) :
  Calls Try.prog 67 #[.slice A0 l0.length c0, .slice A1 l1.length c1] w fun e w' => ∃ v0_ : Value, e = .returned (v0_) ∧ Kd.R k38 38 w' w.heap.size (fun _ => True) v0_ r ∧ Below w.heap.size w w' := by
 unfold attr_Change.f at h
 have hl : (l0.length + l1.length) * 32 ≤ 140737488355328 := by
  by_cases hl : (l0.length + l1.length) * 32 ≤ 140737488355328
  ·exact hl
  ·rw [if_neg hl] at h; cases h
 rw [if_pos hl] at h
 have HC := Aside0.mk (both_calls 105 (enters_any Try.func105 rfl rfl) changeV change_any changeV_len w A0 c0 l0 A1 c1 l1 w.heap.size _ hr0 hr1 (Nat.le_refl _) (outis_made w) hl)
 have hmf : ∀ (fn : Fn) (first cap : Array Value) (w : World), (Instr.makeFunc fn first cap).run Try.prog w = .ok (.func fn first cap) w := fun _ _ _ _ => rfl
 have HR := Aside0.mk (Option.some.inj h)
 clear hr0 hr1 hc0 hc1 hl h
 go_enter Try.func67, Try.ntmps67
 go_wp2_with (go_at_call 103; refine HC.out.mono ?_)
 rintro e w' ⟨rfl, v, hv, hR, hB⟩
 obtain ⟨A2, c2, hv2⟩ := Kd.R_slice hR
 have hc : w'.cell? ⟨w.heap.size, 0, none⟩ = some v := (blk_cell hv 0).trans rfl
 have hR' := Aside0.mk hR
 have hB' := Aside0.mk hB
 rw [hv2] at hc
 have HV := Aside0.mk hv2
 clear hv hR hB hv2
 go_wp2
 go_ret
 exact ⟨v, by rw [HV.out]; rfl, by rw [← HR.out]; exact hR'.out, hB'.out⟩
end Go.Proofs.Ytdgemabmmomebaa.PDelta
end
section
namespace Go.Proofs.Ytdgemabmmomebaa.PDelta
open Go.RowKit Go.Proofs.YtdgemabmmomebaaW.PrintWords Go.Proofs.YtdgemabmmomebaaW.PrintLast Go.Proofs.YtdgemabmmomebaaW.PrintMore
attribute [local go_sem] max2_int min2_int max_two min_two max_three min_three max_four min_four
attribute [local go_sem high] Go.Proofs.Ytdgemabmmomebaa.Ord.leq_str Go.Proofs.Ytdgemabmmomebaa.Ord.gtr_str Go.Proofs.Ytdgemabmmomebaa.Ord.geq_str
mutual
def chanceryref1_AttrsError.l0 : Nat → List (S38) → Bool → Int → Int → Option (Int)
 | 0, _, _, _, _ => none
 | k + 1, x0, x1, x7, x8 => if x8 < x7 then (if 0 ≤ x8 then (if x8 < (x0.length : Int) then ((chanceryref1_Name.f k ((rd_T38 x0 x8).f0)).bind fun t217 => (if t217 = true then ((chanceryref1_Value.f k ((rd_T38 x0 x8).f1)).bind fun t219 => (if t219 = true then (chanceryref1_AttrsError.j1 k x0 x1 x8 x7 x8 false) else (if ((rd_T38 x0 x8).f1).toList = ([] : List UInt8) then (chanceryref1_AttrsError.j1 k x0 x1 x8 x7 x8 (!x1)) else (chanceryref1_AttrsError.j1 k x0 x1 x8 x7 x8 true)))) else (some 9))) else (none)) else (none)) else (some 0)
def chanceryref1_AttrsError.j1 : Nat → List (S38) → Bool → Int → Int → Int → Bool → Option (Int)
 | 0, _, _, _, _, _, _ => none
 | k + 1, x0, x1, x5, x7, x8, x36 => if x36 = true then (some 23) else (if x5 > 0 then (if 0 ≤ (wrap64 (x5 - 1)) then (if (wrap64 (x5 - 1)) < (x0.length : Int) then (if 0 ≤ x5 then (if x5 < (x0.length : Int) then (if ((Op.bytesLess (((rd_T38 x0 (wrap64 (x5 - 1))).f0).toList) (((rd_T38 x0 x5).f0).toList)) = true) then (chanceryref1_AttrsError.l0 k x0 x1 x7 (wrap64 (x8 + 1))) else (some 5)) else (none)) else (none)) else (none)) else (none)) else (chanceryref1_AttrsError.l0 k x0 x1 x7 (wrap64 (x8 + 1))))
end
def chanceryref1_AttrsError.f (k : Nat) (l0 : List (S38)) (a1 : Bool) : Option (Int) := chanceryref1_AttrsError.l0 k l0 a1 (l0.length : Int) 0
set_option maxHeartbeats 8000000 in
set_option maxRecDepth 100000 in
theorem chanceryref1_AttrsError.calls (k : Nat) (A0 : Option Addr) (c0 : Nat) (l0 : List (S38)) (a1 : Bool) (r : Int) (w : World) (hr0 : Kd.C k38 w A0 l0.length l0) (hc0 : l0.length ≤ c0) (h : chanceryref1_AttrsError.f k l0 a1 = some r) :
  Calls Try.prog 22 #[.slice A0 l0.length c0, .bool a1] w fun e w' => e = .returned (.int .i64 r) ∧ Drawn0 w w' := by
 have HR0 := Aside0.mk hr0
 have HC0 := Aside0.mk hc0
 clear hr0 hc0
 have H : (chanceryref1_AttrsError.l0 k l0 a1 (l0.length : Int) 0) = some r := h
 clear h
 have H' := Aside0.mk H
 clear H
 go_enter Try.func22, Try.ntmps22
 go_wp2
 repeat (go_quiet (fail); try go_wp2)
 go_loopg [8] k (fun kq v8 w' => ∃ (x8_1 : Int), v8 = .int .i64 x8_1 ∧ Aside0 (chanceryref1_AttrsError.l0 kq l0 a1 (l0.length : Int) x8_1 = some r) ∧ Aside0 (kq ≤ k) ∧ Drawn0 w w')
 case atStart => exact ⟨(0), (by first | rfl | (simp; done) | (simp [*]; done)), H', ⟨Nat.le_refl _⟩, by repeat (first | exact Drawn0.refl _ | apply Drawn0.step)⟩
 case round =>
  clear H'
  try clear c2
  try clear p2
  obtain ⟨x8_1, rfl, HA, HK1, ⟨m1, rfl⟩⟩ := hrel
  cases gk with
  | zero => exact absurd HA.out (by simp [chanceryref1_AttrsError.l0])
  | succ k1 =>
   have H := HA.out
   clear HA
   simp only [chanceryref1_AttrsError.l0] at H
   by_cases c3 : x8_1 < (l0.length : Int)
   ·rw [if_pos c3] at H
    have c3b0 : decide (x8_1 < (l0.length : Int)) = true := decide_eq_true c3
    clear c3
    by_cases c4 : 0 ≤ x8_1
    ·rw [if_pos c4] at H
     have c4b0 : decide (0 ≤ x8_1) = true := decide_eq_true c4
     clear c4
     by_cases c5 : x8_1 < (l0.length : Int)
     ·rw [if_pos c5] at H
      have c5b0 : decide (x8_1 < (l0.length : Int)) = true := decide_eq_true c5
      clear c5
      replace H := Option.bind_eq_some_iff.mp H
      obtain ⟨t217, A60, H⟩ := H
      replace H : (if t217 = true then ((chanceryref1_Value.f k1 ((rd_T38 l0 x8_1).f1)).bind fun t219 => (if t219 = true then (chanceryref1_AttrsError.j1 k1 l0 a1 x8_1 (l0.length : Int) x8_1 false) else (if ((rd_T38 l0 x8_1).f1).toList = ([] : List UInt8) then (chanceryref1_AttrsError.j1 k1 l0 a1 x8_1 (l0.length : Int) x8_1 (!a1)) else (chanceryref1_AttrsError.j1 k1 l0 a1 x8_1 (l0.length : Int) x8_1 true)))) else (some 9)) = some r := H
      have A6 := Aside0.mk A60
      clear A60
      by_cases c7 : t217 = true
      ·subst c7
       have H1 : ((chanceryref1_Value.f k1 ((rd_T38 l0 x8_1).f1)).bind fun t219 => (if t219 = true then (chanceryref1_AttrsError.j1 k1 l0 a1 x8_1 (l0.length : Int) x8_1 false) else (if ((rd_T38 l0 x8_1).f1).toList = ([] : List UInt8) then (chanceryref1_AttrsError.j1 k1 l0 a1 x8_1 (l0.length : Int) x8_1 (!a1)) else (chanceryref1_AttrsError.j1 k1 l0 a1 x8_1 (l0.length : Int) x8_1 true)))) = some r := by rw [if_pos rfl] at H; exact H
       clear H
       have H := H1
       clear H1
       have HC8 := Aside0.mk H
       clear H
       have p216 : 0 ≤ (x8_1 : Int) := of_decide_eq_true (by assumption)
       have q216 : x8_1 < (l0.length : Int) := of_decide_eq_true (by assumption)
       obtain ⟨ad216, e216, hx216_0, hx216_1⟩ := at_T38 HR0.out x8_1 p216 q216
       cases e216
       replace p216 := eq_true p216
       replace q216 := eq_true q216
       go_upto_region 6 with (first | (go_at_call 62; (with_reducible refine (chanceryref1_Name.calls k1 ((rd_T38 l0 x8_1).f0) true _ A6.out).mono ?_); rintro e w' ⟨rfl, ⟨nd, rfl⟩⟩; (try first | exact ⟨rfl, _, World.drewN_drewN _ _ _⟩ | exact ⟨rfl, _, Eq.trans (World.drewN_drewN _ _ _) (congrArg (World.drewN _) (Nat.add_assoc _ _ _))⟩)))
       repeat (go_quiet (first | (go_at_call 62; (with_reducible refine (chanceryref1_Name.calls k1 ((rd_T38 l0 x8_1).f0) true _ A6.out).mono ?_); rintro e w' ⟨rfl, ⟨nd, rfl⟩⟩; (try first | exact ⟨rfl, _, World.drewN_drewN _ _ _⟩ | exact ⟨rfl, _, Eq.trans (World.drewN_drewN _ _ _) (congrArg (World.drewN _) (Nat.add_assoc _ _ _))⟩))); go_upto_region 6 with (first | (go_at_call 62; (with_reducible refine (chanceryref1_Name.calls k1 ((rd_T38 l0 x8_1).f0) true _ A6.out).mono ?_); rintro e w' ⟨rfl, ⟨nd, rfl⟩⟩; (try first | exact ⟨rfl, _, World.drewN_drewN _ _ _⟩ | exact ⟨rfl, _, Eq.trans (World.drewN_drewN _ _ _) (congrArg (World.drewN _) (Nat.add_assoc _ _ _))⟩))))
       (try simp only [Act.put, List.setIfInBounds_toArray, List.set_cons_zero, List.set_cons_succ])
       go_cut [36] (fun v36 wc => ∃ (kq : Nat) (x36_7 : Bool), v36 = .bool x36_7 ∧ Aside0 (chanceryref1_AttrsError.j1 kq l0 a1 x8_1 (l0.length : Int) x8_1 x36_7 = some r) ∧ Aside0 (kq ≤ k1) ∧ Drawn0 w wc)
       case first =>
        have H := HC8.out
        clear HC8
        replace H := Option.bind_eq_some_iff.mp H
        obtain ⟨t219, A90, H⟩ := H
        replace H : (if t219 = true then (chanceryref1_AttrsError.j1 k1 l0 a1 x8_1 (l0.length : Int) x8_1 false) else (if ((rd_T38 l0 x8_1).f1).toList = ([] : List UInt8) then (chanceryref1_AttrsError.j1 k1 l0 a1 x8_1 (l0.length : Int) x8_1 (!a1)) else (chanceryref1_AttrsError.j1 k1 l0 a1 x8_1 (l0.length : Int) x8_1 true))) = some r := H
        have A9 := Aside0.mk A90
        clear A90
        by_cases c10 : t219 = true
        ·subst c10
         have H1 : (chanceryref1_AttrsError.j1 k1 l0 a1 x8_1 (l0.length : Int) x8_1 false) = some r := by rw [if_pos rfl] at H; exact H
         clear H
         have H := H1
         clear H1
         have H' := Aside0.mk H
         clear H
         have p218 : 0 ≤ (x8_1 : Int) := of_decide_eq_true (by assumption)
         have q218 : x8_1 < (l0.length : Int) := of_decide_eq_true (by assumption)
         obtain ⟨ad218, e218, hx218_0, hx218_1⟩ := at_T38 HR0.out x8_1 p218 q218
         obtain rfl : ad216 = ad218 := (by injection e218)
         replace p218 := eq_true p218
         replace q218 := eq_true q218
         go_wp2_with (first | (go_at_call 63; (with_reducible refine (chanceryref1_Value.calls k1 ((rd_T38 l0 x8_1).f1) true _ A9.out).mono ?_); rintro e w' ⟨rfl, ⟨nd, rfl⟩⟩; (try first | exact ⟨rfl, _, World.drewN_drewN _ _ _⟩ | exact ⟨rfl, _, Eq.trans (World.drewN_drewN _ _ _) (congrArg (World.drewN _) (Nat.add_assoc _ _ _))⟩)))
         repeat (go_quiet (first | (go_at_call 63; (with_reducible refine (chanceryref1_Value.calls k1 ((rd_T38 l0 x8_1).f1) true _ A9.out).mono ?_); rintro e w' ⟨rfl, ⟨nd, rfl⟩⟩; (try first | exact ⟨rfl, _, World.drewN_drewN _ _ _⟩ | exact ⟨rfl, _, Eq.trans (World.drewN_drewN _ _ _) (congrArg (World.drewN _) (Nat.add_assoc _ _ _))⟩))); try go_wp2_with (first | (go_at_call 63; (with_reducible refine (chanceryref1_Value.calls k1 ((rd_T38 l0 x8_1).f1) true _ A9.out).mono ?_); rintro e w' ⟨rfl, ⟨nd, rfl⟩⟩; (try first | exact ⟨rfl, _, World.drewN_drewN _ _ _⟩ | exact ⟨rfl, _, Eq.trans (World.drewN_drewN _ _ _) (congrArg (World.drewN _) (Nat.add_assoc _ _ _))⟩))))
         go_meet
         case rel => exact ⟨_, (false), (by first | rfl | (simp; done) | (simp [*]; done)), H', ⟨by have := HK1.out; first | omega | exact Nat.le_refl _⟩, by repeat (first | exact Drawn0.refl _ | apply Drawn0.step)⟩
        ·replace c10 := Bool.eq_false_iff.mpr c10
         subst c10
         have H1 : (if ((rd_T38 l0 x8_1).f1).toList = ([] : List UInt8) then (chanceryref1_AttrsError.j1 k1 l0 a1 x8_1 (l0.length : Int) x8_1 (!a1)) else (chanceryref1_AttrsError.j1 k1 l0 a1 x8_1 (l0.length : Int) x8_1 true)) = some r := by rw [if_neg (show ¬ (false = true) by decide)] at H; exact H
         clear H
         have H := H1
         clear H1
         by_cases c11 : ((rd_T38 l0 x8_1).f1).toList = ([] : List UInt8)
         ·rw [if_pos c11] at H
          have c11b0 : (((rd_T38 l0 x8_1).f1).toList == ([] : List UInt8)) = true := beq_iff_eq.mpr c11
          have c11b1 : (((rd_T38 l0 x8_1).f1).toList != ([] : List UInt8)) = false := bne_eq_false_iff_eq.mpr c11
          clear c11
          (first | rw [c11b0] | (simp only [i64_w, i32_w]; rw [c11b0]) | skip)
          have H' := Aside0.mk H
          clear H
          have p218 : 0 ≤ (x8_1 : Int) := of_decide_eq_true (by assumption)
          have q218 : x8_1 < (l0.length : Int) := of_decide_eq_true (by assumption)
          obtain ⟨ad218, e218, hx218_0, hx218_1⟩ := at_T38 HR0.out x8_1 p218 q218
          obtain rfl : ad216 = ad218 := (by injection e218)
          replace p218 := eq_true p218
          replace q218 := eq_true q218
          go_wp2_with (first | (go_at_call 63; (with_reducible refine (chanceryref1_Value.calls k1 ((rd_T38 l0 x8_1).f1) false _ A9.out).mono ?_); rintro e w' ⟨rfl, ⟨nd, rfl⟩⟩; (try first | exact ⟨rfl, _, World.drewN_drewN _ _ _⟩ | exact ⟨rfl, _, Eq.trans (World.drewN_drewN _ _ _) (congrArg (World.drewN _) (Nat.add_assoc _ _ _))⟩); have p220 : 0 ≤ (x8_1 : Int) := of_decide_eq_true (by assumption); have q220 : x8_1 < (l0.length : Int) := of_decide_eq_true (by assumption); obtain ⟨ad220, e220, hx220_0, hx220_1⟩ := at_T38 HR0.out x8_1 p220 q220; obtain rfl : ad216 = ad220 := (by injection e220); replace p220 := eq_true p220; replace q220 := eq_true q220))
          repeat (go_quiet (first | (go_at_call 63; (with_reducible refine (chanceryref1_Value.calls k1 ((rd_T38 l0 x8_1).f1) false _ A9.out).mono ?_); rintro e w' ⟨rfl, ⟨nd, rfl⟩⟩; (try first | exact ⟨rfl, _, World.drewN_drewN _ _ _⟩ | exact ⟨rfl, _, Eq.trans (World.drewN_drewN _ _ _) (congrArg (World.drewN _) (Nat.add_assoc _ _ _))⟩); have p220 : 0 ≤ (x8_1 : Int) := of_decide_eq_true (by assumption); have q220 : x8_1 < (l0.length : Int) := of_decide_eq_true (by assumption); obtain ⟨ad220, e220, hx220_0, hx220_1⟩ := at_T38 HR0.out x8_1 p220 q220; obtain rfl : ad216 = ad220 := (by injection e220); replace p220 := eq_true p220; replace q220 := eq_true q220)); try go_wp2_with (first | (go_at_call 63; (with_reducible refine (chanceryref1_Value.calls k1 ((rd_T38 l0 x8_1).f1) false _ A9.out).mono ?_); rintro e w' ⟨rfl, ⟨nd, rfl⟩⟩; (try first | exact ⟨rfl, _, World.drewN_drewN _ _ _⟩ | exact ⟨rfl, _, Eq.trans (World.drewN_drewN _ _ _) (congrArg (World.drewN _) (Nat.add_assoc _ _ _))⟩); have p220 : 0 ≤ (x8_1 : Int) := of_decide_eq_true (by assumption); have q220 : x8_1 < (l0.length : Int) := of_decide_eq_true (by assumption); obtain ⟨ad220, e220, hx220_0, hx220_1⟩ := at_T38 HR0.out x8_1 p220 q220; obtain rfl : ad216 = ad220 := (by injection e220); replace p220 := eq_true p220; replace q220 := eq_true q220)))
          go_meet
          case rel => exact ⟨_, (!a1), (by first | rfl | (simp; done) | (simp [*]; done)), H', ⟨by have := HK1.out; first | omega | exact Nat.le_refl _⟩, by repeat (first | exact Drawn0.refl _ | apply Drawn0.step)⟩
         ·rw [if_neg c11] at H
          have c11b0 : (((rd_T38 l0 x8_1).f1).toList == ([] : List UInt8)) = false := beq_eq_false_iff_ne.mpr c11
          have c11b1 : (((rd_T38 l0 x8_1).f1).toList != ([] : List UInt8)) = true := bne_iff_ne.mpr c11
          (first | rw [c11b0] | (simp only [i64_w, i32_w]; rw [c11b0]) | skip)
          have H' := Aside0.mk H
          clear H
          have p218 : 0 ≤ (x8_1 : Int) := of_decide_eq_true (by assumption)
          have q218 : x8_1 < (l0.length : Int) := of_decide_eq_true (by assumption)
          obtain ⟨ad218, e218, hx218_0, hx218_1⟩ := at_T38 HR0.out x8_1 p218 q218
          obtain rfl : ad216 = ad218 := (by injection e218)
          replace p218 := eq_true p218
          replace q218 := eq_true q218
          go_wp2_with (first | (go_at_call 63; (with_reducible refine (chanceryref1_Value.calls k1 ((rd_T38 l0 x8_1).f1) false _ A9.out).mono ?_); rintro e w' ⟨rfl, ⟨nd, rfl⟩⟩; (try first | exact ⟨rfl, _, World.drewN_drewN _ _ _⟩ | exact ⟨rfl, _, Eq.trans (World.drewN_drewN _ _ _) (congrArg (World.drewN _) (Nat.add_assoc _ _ _))⟩); have p220 : 0 ≤ (x8_1 : Int) := of_decide_eq_true (by assumption); have q220 : x8_1 < (l0.length : Int) := of_decide_eq_true (by assumption); obtain ⟨ad220, e220, hx220_0, hx220_1⟩ := at_T38 HR0.out x8_1 p220 q220; obtain rfl : ad216 = ad220 := (by injection e220); replace p220 := eq_true p220; replace q220 := eq_true q220))
          repeat (go_quiet (first | (go_at_call 63; (with_reducible refine (chanceryref1_Value.calls k1 ((rd_T38 l0 x8_1).f1) false _ A9.out).mono ?_); rintro e w' ⟨rfl, ⟨nd, rfl⟩⟩; (try first | exact ⟨rfl, _, World.drewN_drewN _ _ _⟩ | exact ⟨rfl, _, Eq.trans (World.drewN_drewN _ _ _) (congrArg (World.drewN _) (Nat.add_assoc _ _ _))⟩); have p220 : 0 ≤ (x8_1 : Int) := of_decide_eq_true (by assumption); have q220 : x8_1 < (l0.length : Int) := of_decide_eq_true (by assumption); obtain ⟨ad220, e220, hx220_0, hx220_1⟩ := at_T38 HR0.out x8_1 p220 q220; obtain rfl : ad216 = ad220 := (by injection e220); replace p220 := eq_true p220; replace q220 := eq_true q220)); try go_wp2_with (first | (go_at_call 63; (with_reducible refine (chanceryref1_Value.calls k1 ((rd_T38 l0 x8_1).f1) false _ A9.out).mono ?_); rintro e w' ⟨rfl, ⟨nd, rfl⟩⟩; (try first | exact ⟨rfl, _, World.drewN_drewN _ _ _⟩ | exact ⟨rfl, _, Eq.trans (World.drewN_drewN _ _ _) (congrArg (World.drewN _) (Nat.add_assoc _ _ _))⟩); have p220 : 0 ≤ (x8_1 : Int) := of_decide_eq_true (by assumption); have q220 : x8_1 < (l0.length : Int) := of_decide_eq_true (by assumption); obtain ⟨ad220, e220, hx220_0, hx220_1⟩ := at_T38 HR0.out x8_1 p220 q220; obtain rfl : ad216 = ad220 := (by injection e220); replace p220 := eq_true p220; replace q220 := eq_true q220)))
          go_meet
          case rel => exact ⟨_, (true), (by first | rfl | (simp; done) | (simp [*]; done)), H', ⟨by have := HK1.out; first | omega | exact Nat.le_refl _⟩, by repeat (first | exact Drawn0.refl _ | apply Drawn0.step)⟩
       case rest =>
        clear HC8
        try clear c1
        try clear c2
        try clear p2
        try clear q2
        try clear hx2
        try clear c3
        try clear c3b0
        try clear c4
        try clear c4b0
        try clear c5
        try clear c5b0
        try clear c7
        try clear c10
        try clear c11
        try clear c11b0
        try clear c11b1
        try clear hx216_0
        try clear hx216_1
        try clear hx218_0
        try clear hx218_1
        try clear hx220_0
        try clear hx220_1
        try clear p2
        try clear p216
        try clear p218
        try clear p220
        try clear q216
        try clear q218
        try clear q220
        obtain ⟨kq, x36_7, rfl, HA, HJ7, ⟨mc7, rfl⟩⟩ := hcut
        cases kq with
        | zero => exact absurd HA.out (by simp [chanceryref1_AttrsError.j1])
        | succ kj7 =>
         have H := HA.out
         clear HA
         simp only [chanceryref1_AttrsError.j1] at H
         by_cases c12 : x36_7 = true
         ·subst c12
          have H1 : (some 23) = some r := by rw [if_pos rfl] at H; exact H
          clear H
          have H := H1
          clear H1
          obtain rfl := Option.some.inj H
          go_wp2
          repeat (go_quiet (fail); try go_wp2)
          go_ret
          exact ⟨by first | rfl | (simp; done) | (simp [*]; done), by repeat (first | exact Drawn0.refl _ | apply Drawn0.step)⟩
         ·replace c12 := Bool.eq_false_iff.mpr c12
          subst c12
          have H1 : (if x8_1 > 0 then (if 0 ≤ (wrap64 (x8_1 - 1)) then (if (wrap64 (x8_1 - 1)) < (l0.length : Int) then (if 0 ≤ x8_1 then (if x8_1 < (l0.length : Int) then (if ((Op.bytesLess (((rd_T38 l0 (wrap64 (x8_1 - 1))).f0).toList) (((rd_T38 l0 x8_1).f0).toList)) = true) then (chanceryref1_AttrsError.l0 kj7 l0 a1 (l0.length : Int) (wrap64 (x8_1 + 1))) else (some 5)) else (none)) else (none)) else (none)) else (none)) else (chanceryref1_AttrsError.l0 kj7 l0 a1 (l0.length : Int) (wrap64 (x8_1 + 1)))) = some r := by rw [if_neg (show ¬ (false = true) by decide)] at H; exact H
          clear H
          have H := H1
          clear H1
          by_cases c13 : x8_1 > 0
          ·rw [if_pos c13] at H
           have c13b0 : decide (0 < x8_1) = true := decide_eq_true c13
           clear c13
           obtain ⟨ji14, hji14⟩ : ∃ j_ : Int, (wrap64 (x8_1 - 1)) = j_ := ⟨_, rfl⟩
           replace H : (if 0 ≤ (ji14) then (if (ji14) < (l0.length : Int) then (if 0 ≤ x8_1 then (if x8_1 < (l0.length : Int) then (if ((Op.bytesLess (((rd_T38 l0 (ji14)).f0).toList) (((rd_T38 l0 x8_1).f0).toList)) = true) then (chanceryref1_AttrsError.l0 kj7 l0 a1 (l0.length : Int) (wrap64 (x8_1 + 1))) else (some 5)) else (none)) else (none)) else (none)) else (none)) = some r := by first | (rw [hji14] at H; exact H) | (simp only [hji14] at H ⊢; exact H)
           have hji14w : (IntKind.i64.wrap (x8_1 - 1)) = ji14 := (i64_w _).trans hji14
           by_cases c15 : 0 ≤ (ji14)
           ·rw [if_pos c15] at H
            have c15b0 : decide (0 ≤ (ji14)) = true := decide_eq_true c15
            clear c15
            by_cases c16 : (ji14) < (l0.length : Int)
            ·rw [if_pos c16] at H
             have c16b0 : decide ((ji14) < (l0.length : Int)) = true := decide_eq_true c16
             clear c16
             by_cases c17 : 0 ≤ x8_1
             ·rw [if_pos c17] at H
              have c17b0 : decide (0 ≤ x8_1) = true := decide_eq_true c17
              clear c17
              by_cases c18 : x8_1 < (l0.length : Int)
              ·rw [if_pos c18] at H
               have c18b0 : decide (x8_1 < (l0.length : Int)) = true := decide_eq_true c18
               clear c18
               by_cases c19 : ((Op.bytesLess (((rd_T38 l0 (ji14)).f0).toList) (((rd_T38 l0 x8_1).f0).toList)) = true)
               ·rw [if_pos c19] at H
                have c19b0 : (Op.bytesLess (((rd_T38 l0 (ji14)).f0).toList) (((rd_T38 l0 x8_1).f0).toList)) = true := c19
                clear c19
                have H' := Aside0.mk H
                clear H
                have p221 : 0 ≤ ((ji14) : Int) := of_decide_eq_true (by assumption)
                have q221 : (ji14) < (l0.length : Int) := of_decide_eq_true (by assumption)
                obtain ⟨ad221, e221, hx221_0, hx221_1⟩ := at_T38 HR0.out (ji14) p221 q221
                obtain rfl : ad216 = ad221 := (by injection e221)
                replace p221 := eq_true p221
                replace q221 := eq_true q221
                have p222 : 0 ≤ (x8_1 : Int) := of_decide_eq_true (by assumption)
                have q222 : x8_1 < (l0.length : Int) := of_decide_eq_true (by assumption)
                obtain ⟨ad222, e222, hx222_0, hx222_1⟩ := at_T38 HR0.out x8_1 p222 q222
                obtain rfl : ad216 = ad222 := (by injection e222)
                replace p222 := eq_true p222
                replace q222 := eq_true q222
                go_wp2
                repeat (go_quiet (fail); try go_wp2)
                go_roundg kj7
                case measure => have := HK1.out; have := HJ7.out; omega
                case rel => exact ⟨(wrap64 (x8_1 + 1)), (by first | rfl | (simp; done) | (simp [*]; done)), H', ⟨by have := HK1.out; have := HJ7.out; omega⟩, by repeat (first | exact Drawn0.refl _ | apply Drawn0.step)⟩
               ·rw [if_neg c19] at H
                have c19b0 : (Op.bytesLess (((rd_T38 l0 (ji14)).f0).toList) (((rd_T38 l0 x8_1).f0).toList)) = false := by simpa using c19
                clear c19
                obtain rfl := Option.some.inj H
                have p221 : 0 ≤ ((ji14) : Int) := of_decide_eq_true (by assumption)
                have q221 : (ji14) < (l0.length : Int) := of_decide_eq_true (by assumption)
                obtain ⟨ad221, e221, hx221_0, hx221_1⟩ := at_T38 HR0.out (ji14) p221 q221
                obtain rfl : ad216 = ad221 := (by injection e221)
                replace p221 := eq_true p221
                replace q221 := eq_true q221
                have p222 : 0 ≤ (x8_1 : Int) := of_decide_eq_true (by assumption)
                have q222 : x8_1 < (l0.length : Int) := of_decide_eq_true (by assumption)
                obtain ⟨ad222, e222, hx222_0, hx222_1⟩ := at_T38 HR0.out x8_1 p222 q222
                obtain rfl : ad216 = ad222 := (by injection e222)
                replace p222 := eq_true p222
                replace q222 := eq_true q222
                go_wp2
                repeat (go_quiet (fail); try go_wp2)
                go_ret
                exact ⟨by first | rfl | (simp; done) | (simp only [← hji14] <;> (first | rfl | simp)) | (simp [*]; done), by repeat (first | exact Drawn0.refl _ | apply Drawn0.step)⟩
              ·rw [if_neg c18] at H
               exact absurd H (by simp)
             ·rw [if_neg c17] at H
              exact absurd H (by simp)
            ·rw [if_neg c16] at H
             exact absurd H (by simp)
           ·rw [if_neg c15] at H
            exact absurd H (by simp)
          ·rw [if_neg c13] at H
           have c13b0 : decide (0 < x8_1) = false := decide_eq_false c13
           clear c13
           have H' := Aside0.mk H
           clear H
           go_wp2
           repeat (go_quiet (fail); try go_wp2)
           go_roundg kj7
           case measure => have := HK1.out; have := HJ7.out; omega
           case rel => exact ⟨(wrap64 (x8_1 + 1)), (by first | rfl | (simp; done) | (simp [*]; done)), H', ⟨by have := HK1.out; have := HJ7.out; omega⟩, by repeat (first | exact Drawn0.refl _ | apply Drawn0.step)⟩
      ·replace c7 := Bool.eq_false_iff.mpr c7
       subst c7
       have H1 : (some 9) = some r := by rw [if_neg (show ¬ (false = true) by decide)] at H; exact H
       clear H
       have H := H1
       clear H1
       obtain rfl := Option.some.inj H
       have p216 : 0 ≤ (x8_1 : Int) := of_decide_eq_true (by assumption)
       have q216 : x8_1 < (l0.length : Int) := of_decide_eq_true (by assumption)
       obtain ⟨ad216, e216, hx216_0, hx216_1⟩ := at_T38 HR0.out x8_1 p216 q216
       cases e216
       replace p216 := eq_true p216
       replace q216 := eq_true q216
       go_wp2_with (first | (go_at_call 62; (with_reducible refine (chanceryref1_Name.calls k1 ((rd_T38 l0 x8_1).f0) false _ A6.out).mono ?_); rintro e w' ⟨rfl, ⟨nd, rfl⟩⟩; (try first | exact ⟨rfl, _, World.drewN_drewN _ _ _⟩ | exact ⟨rfl, _, Eq.trans (World.drewN_drewN _ _ _) (congrArg (World.drewN _) (Nat.add_assoc _ _ _))⟩)))
       repeat (go_quiet (first | (go_at_call 62; (with_reducible refine (chanceryref1_Name.calls k1 ((rd_T38 l0 x8_1).f0) false _ A6.out).mono ?_); rintro e w' ⟨rfl, ⟨nd, rfl⟩⟩; (try first | exact ⟨rfl, _, World.drewN_drewN _ _ _⟩ | exact ⟨rfl, _, Eq.trans (World.drewN_drewN _ _ _) (congrArg (World.drewN _) (Nat.add_assoc _ _ _))⟩))); try go_wp2_with (first | (go_at_call 62; (with_reducible refine (chanceryref1_Name.calls k1 ((rd_T38 l0 x8_1).f0) false _ A6.out).mono ?_); rintro e w' ⟨rfl, ⟨nd, rfl⟩⟩; (try first | exact ⟨rfl, _, World.drewN_drewN _ _ _⟩ | exact ⟨rfl, _, Eq.trans (World.drewN_drewN _ _ _) (congrArg (World.drewN _) (Nat.add_assoc _ _ _))⟩))))
       go_ret
       exact ⟨by first | rfl | (simp; done) | (simp [*]; done), by repeat (first | exact Drawn0.refl _ | apply Drawn0.step)⟩
     ·rw [if_neg c5] at H
      exact absurd H (by simp)
    ·rw [if_neg c4] at H
     exact absurd H (by simp)
   ·rw [if_neg c3] at H
    have c3b0 : decide (x8_1 < (l0.length : Int)) = false := decide_eq_false c3
    clear c3
    obtain rfl := Option.some.inj H
    go_wp2
    repeat (go_quiet (fail); try go_wp2)
    go_ret
    exact ⟨by first | rfl | (simp; done) | (simp [*]; done), by repeat (first | exact Drawn0.refl _ | apply Drawn0.step)⟩
def chanceryref1_In.f (a0 : Int) (a1 : Int) (a2 : Int) : Option (Bool) := if a0 ≥ a1 then (some (decide (a0 ≤ a2))) else (some false)
set_option maxHeartbeats 8000000 in
set_option maxRecDepth 100000 in
theorem chanceryref1_In.calls (a0 : Int) (a1 : Int) (a2 : Int) (r : Bool) (w : World) (h : chanceryref1_In.f a0 a1 a2 = some r) :
  Calls Try.prog 52 #[.int .i64 a0, .int .i64 a1, .int .i64 a2] w fun e w' => e = .returned (.bool r) ∧ Drawn0 w w' := by
 have H : (if a0 ≥ a1 then (some (decide (a0 ≤ a2))) else (some false)) = some r := h
 clear h
 by_cases c4 : a0 ≥ a1
 ·rw [if_pos c4] at H
  have c4b0 : decide (a1 ≤ a0) = true := decide_eq_true c4
  clear c4
  obtain rfl := Option.some.inj H
  go_enter Try.func52, Try.ntmps52
  go_wp2
  go_ret
  exact ⟨by first | rfl | (simp; done) | (simp [*]; done), by repeat (first | exact Drawn0.refl _ | apply Drawn0.step)⟩
 ·rw [if_neg c4] at H
  have c4b0 : decide (a1 ≤ a0) = false := decide_eq_false c4
  clear c4
  obtain rfl := Option.some.inj H
  go_enter Try.func52, Try.ntmps52
  go_wp2
  go_ret
  exact ⟨by first | rfl | (simp; done) | (simp [*]; done), by repeat (first | exact Drawn0.refl _ | apply Drawn0.step)⟩
def chanceryref1_Char.f (a0 : Int) : Option (Bool) := if a0 = 9 then (some true) else (if a0 = 10 then (some true) else ((chanceryref1_In.f a0 32 126).bind fun t223 => (if t223 = true then (some true) else ((chanceryref1_In.f a0 160 55295).bind fun t224 => (if t224 = true then (some true) else ((chanceryref1_In.f a0 57344 1114111).bind fun t225 => (some t225)))))))
set_option maxHeartbeats 8000000 in
set_option maxRecDepth 100000 in
theorem chanceryref1_Char.calls (a0 : Int) (r : Bool) (w : World) (h : chanceryref1_Char.f a0 = some r) :
  Calls Try.prog 109 #[.int .i64 a0] w fun e w' => e = .returned (.bool r) ∧ Drawn0 w w' := by
 have H : (if a0 = 9 then (some true) else (if a0 = 10 then (some true) else ((chanceryref1_In.f a0 32 126).bind fun t223 => (if t223 = true then (some true) else ((chanceryref1_In.f a0 160 55295).bind fun t224 => (if t224 = true then (some true) else ((chanceryref1_In.f a0 57344 1114111).bind fun t225 => (some t225)))))))) = some r := h
 clear h
 by_cases c2 : a0 = 9
 ·rw [if_pos c2] at H
  have c2b0 : (a0 == 9) = true := beq_iff_eq.mpr c2
  have c2b1 : (a0 != 9) = false := bne_eq_false_iff_eq.mpr c2
  clear c2
  obtain rfl := Option.some.inj H
  go_enter Try.func109, Try.ntmps109
  go_wp2
  go_ret
  exact ⟨by first | rfl | (simp; done) | (simp [*]; done), by repeat (first | exact Drawn0.refl _ | apply Drawn0.step)⟩
 ·rw [if_neg c2] at H
  have c2b0 : (a0 == 9) = false := beq_eq_false_iff_ne.mpr c2
  have c2b1 : (a0 != 9) = true := bne_iff_ne.mpr c2
  by_cases c3 : a0 = 10
  ·rw [if_pos c3] at H
   have c3b0 : (a0 == 10) = true := beq_iff_eq.mpr c3
   have c3b1 : (a0 != 10) = false := bne_eq_false_iff_eq.mpr c3
   clear c3
   obtain rfl := Option.some.inj H
   go_enter Try.func109, Try.ntmps109
   go_wp2
   go_ret
   exact ⟨by first | rfl | (simp; done) | (simp [*]; done), by repeat (first | exact Drawn0.refl _ | apply Drawn0.step)⟩
  ·rw [if_neg c3] at H
   have c3b0 : (a0 == 10) = false := beq_eq_false_iff_ne.mpr c3
   have c3b1 : (a0 != 10) = true := bne_iff_ne.mpr c3
   replace H := Option.bind_eq_some_iff.mp H
   obtain ⟨t223, A40, H⟩ := H
   replace H : (if t223 = true then (some true) else ((chanceryref1_In.f a0 160 55295).bind fun t224 => (if t224 = true then (some true) else ((chanceryref1_In.f a0 57344 1114111).bind fun t225 => (some t225))))) = some r := H
   have A4 := Aside0.mk A40
   clear A40
   by_cases c5 : t223 = true
   ·subst c5
    have H1 : (some true) = some r := by rw [if_pos rfl] at H; exact H
    clear H
    have H := H1
    clear H1
    obtain rfl := Option.some.inj H
    go_enter Try.func109, Try.ntmps109
    go_wp2_with (first | (go_at_call 52; (with_reducible refine (chanceryref1_In.calls a0 32 126 true _ A4.out).mono ?_); rintro e w' ⟨rfl, ⟨nd, rfl⟩⟩))
    go_ret
    exact ⟨by first | rfl | (simp; done) | (simp [*]; done), by repeat (first | exact Drawn0.refl _ | apply Drawn0.step)⟩
   ·replace c5 := Bool.eq_false_iff.mpr c5
    subst c5
    have H1 : ((chanceryref1_In.f a0 160 55295).bind fun t224 => (if t224 = true then (some true) else ((chanceryref1_In.f a0 57344 1114111).bind fun t225 => (some t225)))) = some r := by rw [if_neg (show ¬ (false = true) by decide)] at H; exact H
    clear H
    have H := H1
    clear H1
    replace H := Option.bind_eq_some_iff.mp H
    obtain ⟨t224, A60, H⟩ := H
    replace H : (if t224 = true then (some true) else ((chanceryref1_In.f a0 57344 1114111).bind fun t225 => (some t225))) = some r := H
    have A6 := Aside0.mk A60
    clear A60
    by_cases c7 : t224 = true
    ·subst c7
     have H1 : (some true) = some r := by rw [if_pos rfl] at H; exact H
     clear H
     have H := H1
     clear H1
     obtain rfl := Option.some.inj H
     go_enter Try.func109, Try.ntmps109
     go_wp2_with (first | (go_at_call 52; (with_reducible refine (chanceryref1_In.calls a0 32 126 false _ A4.out).mono ?_); rintro e w' ⟨rfl, ⟨nd, rfl⟩⟩) | (go_at_call 52; (with_reducible refine (chanceryref1_In.calls a0 160 55295 true _ A6.out).mono ?_); rintro e w' ⟨rfl, ⟨nd, rfl⟩⟩))
     go_ret
     exact ⟨by first | rfl | (simp; done) | (simp [*]; done), by repeat (first | exact Drawn0.refl _ | apply Drawn0.step)⟩
    ·replace c7 := Bool.eq_false_iff.mpr c7
     subst c7
     have H1 : ((chanceryref1_In.f a0 57344 1114111).bind fun t225 => (some t225)) = some r := by rw [if_neg (show ¬ (false = true) by decide)] at H; exact H
     clear H
     have H := H1
     clear H1
     replace H := Option.bind_eq_some_iff.mp H
     obtain ⟨t225, A80, H⟩ := H
     replace H : (some t225) = some r := H
     have A8 := Aside0.mk A80
     clear A80
     obtain rfl := Option.some.inj H
     go_enter Try.func109, Try.ntmps109
     go_wp2_with (first | (go_at_call 52; (with_reducible refine (chanceryref1_In.calls a0 32 126 false _ A4.out).mono ?_); rintro e w' ⟨rfl, ⟨nd, rfl⟩⟩) | (go_at_call 52; (with_reducible refine (chanceryref1_In.calls a0 160 55295 false _ A6.out).mono ?_); rintro e w' ⟨rfl, ⟨nd, rfl⟩⟩) | (go_at_call 52; (with_reducible refine (chanceryref1_In.calls a0 57344 1114111 t225 _ A8.out).mono ?_); rintro e w' ⟨rfl, ⟨nd, rfl⟩⟩))
     go_ret
     exact ⟨by first | rfl | (simp; done) | (simp [*]; done), by repeat (first | exact Drawn0.refl _ | apply Drawn0.step)⟩
def chanceryref1_ElemError.j0 : Nat → Bool → Int → Int → List (S38) → Option (Int)
 | 0, _, _, _, _ => none
 | k + 1, x20, x227000, x227001, x227002 => if x20 = true then (some 4) else (if x227000 = 0 then (if x227001 = 0 then ((chanceryref1_AttrsError.f k x227002 false).bind fun t227 => (some t227)) else ((chanceryref1_In.f x227001 1 1073741824).bind fun t228 => (if t228 = true then ((chanceryref1_AttrsError.f k x227002 false).bind fun t229 => (some t229)) else (some 2)))) else ((chanceryref1_Char.f x227000).bind fun t230 => (if t230 = true then (if x227001 = 0 then ((chanceryref1_AttrsError.f k x227002 false).bind fun t231 => (some t231)) else ((chanceryref1_In.f x227001 1 1073741824).bind fun t232 => (if t232 = true then ((chanceryref1_AttrsError.f k x227002 false).bind fun t233 => (some t233)) else (some 2)))) else (some 2))))
def chanceryref1_ElemError.f (k : Nat) (a0_0 : Int) (a0_1 : Int) (l0_2 : List (S38)) : Option (Int) := if a0_0 = 0 then (if a0_1 = 0 then (chanceryref1_ElemError.j0 k true a0_0 a0_1 l0_2) else (chanceryref1_ElemError.j0 k false a0_0 a0_1 l0_2)) else (chanceryref1_ElemError.j0 k (a0_1 != 0) a0_0 a0_1 l0_2)
set_option maxHeartbeats 8000000 in
set_option maxRecDepth 100000 in
theorem chanceryref1_ElemError.calls (k : Nat) (a0_0 : Int) (a0_1 : Int) (A0_2 : Option Addr) (c0_2 : Nat) (l0_2 : List (S38)) (r : Int) (w : World) (hr0_2 : Kd.C k38 w A0_2 l0_2.length l0_2) (hc0_2 : l0_2.length ≤ c0_2) (h : chanceryref1_ElemError.f k a0_0 a0_1 l0_2 = some r) :
  Calls Try.prog 82 #[.agg #[.int .i64 a0_0, .int .i64 a0_1, .slice A0_2 l0_2.length c0_2]] w fun e w' => e = .returned (.int .i64 r) ∧ Below w.heap.size w w' := by
 have hu84 := Try.underlying84
 have HR0_2 := Aside0.mk hr0_2
 have HC0_2 := Aside0.mk hc0_2
 clear hr0_2 hc0_2
 have HB := Aside0.mk (Below.refl w.heap.size w)
 have H : (if a0_0 = 0 then (if a0_1 = 0 then (chanceryref1_ElemError.j0 k true a0_0 a0_1 l0_2) else (chanceryref1_ElemError.j0 k false a0_0 a0_1 l0_2)) else (chanceryref1_ElemError.j0 k (a0_1 != 0) a0_0 a0_1 l0_2)) = some r := h
 clear h
 have HC2 := Aside0.mk H
 clear H
 go_enter Try.func82, Try.ntmps82
 go_upto_region 1 with (first | ((with_reducible refine gate_dst (N := 1) rfl ?_); refine box_event ?hg (N := 1) ?hd (cs := #[.int .i64 a0_0, .int .i64 a0_1, .slice A0_2 l0_2.length c0_2]) (t := 84) ?hr ?_; (case hd => rfl); (case hg => rfl); (case hr => first | (go_simp; done) | (go_simp; rfl)); intro gb226 hg w3 hbox hb; have n0_ := Aside0.mk (below_step (by with_reducible repeat first | exact HB.out | apply below_alloc | apply pw_below_drewN | apply below_drew1) hb); have n1_ := Aside0.mk (hbox); have n2_ := Aside0.mk ((by rw [hg]; exact (below_size (by with_reducible repeat first | exact HB.out | apply below_alloc | apply pw_below_drewN | apply below_drew1)) : w.heap.size ≤ gb226)); have n3_ := Aside0.mk ((by rw [hg]; exact (below_size (by with_reducible repeat first | exact HB.out | apply below_alloc | apply pw_below_drewN | apply below_drew1)) : w.heap.size ≤ gb226)); clear HB; have HB := n0_; have BK226 := n1_; have GW226 := n2_; have GE226 := n3_; clear n0_ n1_ n2_ n3_; clear hb hbox hg))
 (try simp only [Act.put, List.setIfInBounds_toArray, List.set_cons_zero, List.set_cons_succ])
 go_cut [20] (fun v20 wc => ∃ (kq : Nat) (x20_1 : Bool), v20 = .bool x20_1 ∧ Aside0 (chanceryref1_ElemError.j0 kq x20_1 a0_0 a0_1 l0_2 = some r) ∧ Aside0 (kq ≤ k) ∧ Aside0 (wc.heap[gb226]? = some (.cells #[.int .i64 a0_0, .int .i64 a0_1, (.slice A0_2 l0_2.length c0_2)] 84 (0, 0))) ∧ Aside0 (Below w.heap.size w wc))
 case first =>
  have H := HC2.out
  clear HC2
  by_cases c4 : a0_0 = 0
  ·rw [if_pos c4] at H
   have c4b0 : (a0_0 == 0) = true := beq_iff_eq.mpr c4
   have c4b1 : (a0_0 != 0) = false := bne_eq_false_iff_eq.mpr c4
   clear c4
   (first | rw [c4b0] | (simp only [i64_w, i32_w]; rw [c4b0]) | skip)
   by_cases c5 : a0_1 = 0
   ·rw [if_pos c5] at H
    have c5b0 : (a0_1 == 0) = true := beq_iff_eq.mpr c5
    have c5b1 : (a0_1 != 0) = false := bne_eq_false_iff_eq.mpr c5
    clear c5
    have H' := Aside0.mk H
    clear H
    have hcz6_0 : w3.cell? ⟨gb226, 0, none⟩ = some (.int .i64 a0_0) := (blk_cell BK226.out 0).trans rfl
    have hcz6_1 : w3.cell? ⟨gb226, 1, none⟩ = some (.int .i64 a0_1) := (blk_cell BK226.out 1).trans rfl
    have hcz6_2 : w3.cell? ⟨gb226, 2, none⟩ = some (.slice A0_2 l0_2.length c0_2) := (blk_cell BK226.out 2).trans rfl
    have hfz6_0 := blk_frozen BK226.out 0
    have hfz6_1 := blk_frozen BK226.out 1
    have hfz6_2 := blk_frozen BK226.out 2
    go_wp2
    go_meet
    case rel => exact ⟨_, (true), (by first | rfl | (simp; done) | (simp [*]; done)), H', ⟨by first | omega | exact Nat.le_refl _⟩, ⟨by (with_reducible repeat (first | refine blk_drewN ?_ _ | refine blk_drew ?_ | refine blk_alloc ?_ _)); exact BK226.out⟩, ⟨by repeat (first | (with_reducible first | exact HB.out | apply below_alloc | apply pw_below_drewN | apply below_drew1 | refine below_set ?_ GE226.out) | exact HB.out)⟩⟩
   ·rw [if_neg c5] at H
    have c5b0 : (a0_1 == 0) = false := beq_eq_false_iff_ne.mpr c5
    have c5b1 : (a0_1 != 0) = true := bne_iff_ne.mpr c5
    have H' := Aside0.mk H
    clear H
    have hcz7_0 : w3.cell? ⟨gb226, 0, none⟩ = some (.int .i64 a0_0) := (blk_cell BK226.out 0).trans rfl
    have hcz7_1 : w3.cell? ⟨gb226, 1, none⟩ = some (.int .i64 a0_1) := (blk_cell BK226.out 1).trans rfl
    have hcz7_2 : w3.cell? ⟨gb226, 2, none⟩ = some (.slice A0_2 l0_2.length c0_2) := (blk_cell BK226.out 2).trans rfl
    have hfz7_0 := blk_frozen BK226.out 0
    have hfz7_1 := blk_frozen BK226.out 1
    have hfz7_2 := blk_frozen BK226.out 2
    go_wp2
    go_meet
    case rel => exact ⟨_, (false), (by first | rfl | (simp; done) | (simp [*]; done)), H', ⟨by first | omega | exact Nat.le_refl _⟩, ⟨by (with_reducible repeat (first | refine blk_drewN ?_ _ | refine blk_drew ?_ | refine blk_alloc ?_ _)); exact BK226.out⟩, ⟨by repeat (first | (with_reducible first | exact HB.out | apply below_alloc | apply pw_below_drewN | apply below_drew1 | refine below_set ?_ GE226.out) | exact HB.out)⟩⟩
  ·rw [if_neg c4] at H
   have c4b0 : (a0_0 == 0) = false := beq_eq_false_iff_ne.mpr c4
   have c4b1 : (a0_0 != 0) = true := bne_iff_ne.mpr c4
   (first | rw [c4b0] | (simp only [i64_w, i32_w]; rw [c4b0]) | skip)
   have H' := Aside0.mk H
   clear H
   have hcz8_0 : w3.cell? ⟨gb226, 0, none⟩ = some (.int .i64 a0_0) := (blk_cell BK226.out 0).trans rfl
   have hcz8_1 : w3.cell? ⟨gb226, 1, none⟩ = some (.int .i64 a0_1) := (blk_cell BK226.out 1).trans rfl
   have hcz8_2 : w3.cell? ⟨gb226, 2, none⟩ = some (.slice A0_2 l0_2.length c0_2) := (blk_cell BK226.out 2).trans rfl
   have hfz8_0 := blk_frozen BK226.out 0
   have hfz8_1 := blk_frozen BK226.out 1
   have hfz8_2 := blk_frozen BK226.out 2
   go_wp2
   go_meet
   case rel => exact ⟨_, ((a0_1 != 0)), (by first | rfl | (simp; done) | (simp [*]; done)), H', ⟨by first | omega | exact Nat.le_refl _⟩, ⟨by (with_reducible repeat (first | refine blk_drewN ?_ _ | refine blk_drew ?_ | refine blk_alloc ?_ _)); exact BK226.out⟩, ⟨by repeat (first | (with_reducible first | exact HB.out | apply below_alloc | apply pw_below_drewN | apply below_drew1 | refine below_set ?_ GE226.out) | exact HB.out)⟩⟩
 case rest =>
  clear HC2
  try clear p2
  try clear c4
  try clear c4b0
  try clear c4b1
  try clear c5
  try clear c5b0
  try clear c5b1
  try clear c8
  try clear hcz6_0
  try clear hcz6_1
  try clear hcz6_2
  try clear hcz7_0
  try clear hcz7_1
  try clear hcz7_2
  try clear hcz8_0
  try clear hcz8_1
  try clear hcz8_2
  try clear hfz6_0
  try clear hfz6_1
  try clear hfz6_2
  try clear hfz7_0
  try clear hfz7_1
  try clear hfz7_2
  try clear hfz8_0
  try clear hfz8_1
  try clear hfz8_2
  obtain ⟨kq, x20_1, rfl, HA, HJ1, BK226, HB⟩ := hcut
  cases kq with
  | zero => exact absurd HA.out (by simp [chanceryref1_ElemError.j0])
  | succ kj1 =>
   have H := HA.out
   clear HA
   simp only [chanceryref1_ElemError.j0] at H
   by_cases c9 : x20_1 = true
   ·subst c9
    have H1 : (some 4) = some r := by rw [if_pos rfl] at H; exact H
    clear H
    have H := H1
    clear H1
    obtain rfl := Option.some.inj H
    go_wp2
    go_ret
    exact ⟨by first | rfl | (simp [errW_none, errW_some] <;> rfl) | (simp [*, errW_none, errW_some] <;> rfl), by repeat (first | (with_reducible first | exact HB.out | apply below_alloc | apply pw_below_drewN | apply below_drew1 | refine below_set ?_ GE226.out) | exact HB.out)⟩
   ·replace c9 := Bool.eq_false_iff.mpr c9
    subst c9
    have H1 : (if a0_0 = 0 then (if a0_1 = 0 then ((chanceryref1_AttrsError.f kj1 l0_2 false).bind fun t227 => (some t227)) else ((chanceryref1_In.f a0_1 1 1073741824).bind fun t228 => (if t228 = true then ((chanceryref1_AttrsError.f kj1 l0_2 false).bind fun t229 => (some t229)) else (some 2)))) else ((chanceryref1_Char.f a0_0).bind fun t230 => (if t230 = true then (if a0_1 = 0 then ((chanceryref1_AttrsError.f kj1 l0_2 false).bind fun t231 => (some t231)) else ((chanceryref1_In.f a0_1 1 1073741824).bind fun t232 => (if t232 = true then ((chanceryref1_AttrsError.f kj1 l0_2 false).bind fun t233 => (some t233)) else (some 2)))) else (some 2)))) = some r := by rw [if_neg (show ¬ (false = true) by decide)] at H; exact H
    clear H
    have H := H1
    clear H1
    by_cases c10 : a0_0 = 0
    ·rw [if_pos c10] at H
     have c10b0 : (a0_0 == 0) = true := beq_iff_eq.mpr c10
     have c10b1 : (a0_0 != 0) = false := bne_eq_false_iff_eq.mpr c10
     clear c10
     by_cases c11 : a0_1 = 0
     ·rw [if_pos c11] at H
      have c11b0 : (a0_1 == 0) = true := beq_iff_eq.mpr c11
      have c11b1 : (a0_1 != 0) = false := bne_eq_false_iff_eq.mpr c11
      clear c11
      replace H := Option.bind_eq_some_iff.mp H
      obtain ⟨t227, A120, H⟩ := H
      replace H : (some t227) = some r := H
      have A12 := Aside0.mk A120
      clear A120
      obtain rfl := Option.some.inj H
      have hcz13_0 : wc.cell? ⟨gb226, 0, none⟩ = some (.int .i64 a0_0) := (blk_cell BK226.out 0).trans rfl
      have hcz13_1 : wc.cell? ⟨gb226, 1, none⟩ = some (.int .i64 a0_1) := (blk_cell BK226.out 1).trans rfl
      have hcz13_2 : wc.cell? ⟨gb226, 2, none⟩ = some (.slice A0_2 l0_2.length c0_2) := (blk_cell BK226.out 2).trans rfl
      have hfz13_0 := blk_frozen BK226.out 0
      have hfz13_1 := blk_frozen BK226.out 1
      have hfz13_2 := blk_frozen BK226.out 2
      go_wp2_with (first | ((with_reducible refine gate_callee (f := 22) rfl ?_); refine goesL_ (some 43) rfl rfl Try.func22 (by kernel_rfl) rfl #[.slice A0_2 l0_2.length c0_2, .bool false] rfl (by (try simp only [List.map_toArray, List.map_cons, List.map_nil]); first | done | rfl | (simp only [List.length_drop, List.length_take]; rfl)) ?_; (with_reducible refine (chanceryref1_AttrsError.calls kj1 _ _ l0_2 false t227 _ ?side1 ?side2 A12.out).mono ?_); (case side1 => repeat (first | exact (Kd.C_below HR0_2.out HB.out) | (with_reducible refine Kd.C_alloc ?_ _) | (with_reducible refine Kd.C_drewN ?_ _) | (with_reducible refine Kd.C_drew ?_))); (case side2 => exact HC0_2.out); rintro e w' ⟨rfl, ⟨nd, rfl⟩⟩; refine ⟨_, rfl, ?_⟩))
      go_ret
      exact ⟨by first | rfl | (simp [errW_none, errW_some] <;> rfl) | (simp [*, errW_none, errW_some] <;> rfl), by repeat (first | (with_reducible first | exact HB.out | apply below_alloc | apply pw_below_drewN | apply below_drew1 | refine below_set ?_ GE226.out) | exact HB.out)⟩
     ·rw [if_neg c11] at H
      have c11b0 : (a0_1 == 0) = false := beq_eq_false_iff_ne.mpr c11
      have c11b1 : (a0_1 != 0) = true := bne_iff_ne.mpr c11
      replace H := Option.bind_eq_some_iff.mp H
      obtain ⟨t228, A140, H⟩ := H
      replace H : (if t228 = true then ((chanceryref1_AttrsError.f kj1 l0_2 false).bind fun t229 => (some t229)) else (some 2)) = some r := H
      have A14 := Aside0.mk A140
      clear A140
      by_cases c15 : t228 = true
      ·subst c15
       have H1 : ((chanceryref1_AttrsError.f kj1 l0_2 false).bind fun t229 => (some t229)) = some r := by rw [if_pos rfl] at H; exact H
       clear H
       have H := H1
       clear H1
       replace H := Option.bind_eq_some_iff.mp H
       obtain ⟨t229, A160, H⟩ := H
       replace H : (some t229) = some r := H
       have A16 := Aside0.mk A160
       clear A160
       obtain rfl := Option.some.inj H
       have hcz17_0 : wc.cell? ⟨gb226, 0, none⟩ = some (.int .i64 a0_0) := (blk_cell BK226.out 0).trans rfl
       have hcz17_1 : wc.cell? ⟨gb226, 1, none⟩ = some (.int .i64 a0_1) := (blk_cell BK226.out 1).trans rfl
       have hcz17_2 : wc.cell? ⟨gb226, 2, none⟩ = some (.slice A0_2 l0_2.length c0_2) := (blk_cell BK226.out 2).trans rfl
       have hfz17_0 := blk_frozen BK226.out 0
       have hfz17_1 := blk_frozen BK226.out 1
       have hfz17_2 := blk_frozen BK226.out 2
       go_wp2_with (first | (go_at_call 52; (with_reducible refine (chanceryref1_In.calls a0_1 1 1073741824 true _ A14.out).mono ?_); rintro e w' ⟨rfl, ⟨nd, rfl⟩⟩) | ((with_reducible refine gate_callee (f := 22) rfl ?_); refine goesL_ (some 43) rfl rfl Try.func22 (by kernel_rfl) rfl #[.slice A0_2 l0_2.length c0_2, .bool false] rfl (by (try simp only [List.map_toArray, List.map_cons, List.map_nil]); first | done | rfl | (simp only [List.length_drop, List.length_take]; rfl)) ?_; (with_reducible refine (chanceryref1_AttrsError.calls kj1 _ _ l0_2 false t229 _ ?side1 ?side2 A16.out).mono ?_); (case side1 => repeat (first | exact (Kd.C_below HR0_2.out (by repeat (first | (with_reducible first | exact HB.out | apply below_alloc | apply pw_below_drewN | apply below_drew1 | refine below_set ?_ GE226.out) | exact HB.out))) | (with_reducible refine Kd.C_alloc ?_ _) | (with_reducible refine Kd.C_drewN ?_ _) | (with_reducible refine Kd.C_drew ?_))); (case side2 => exact HC0_2.out); rintro e w' ⟨rfl, ⟨nd, rfl⟩⟩; refine ⟨_, rfl, ?_⟩))
       go_ret
       exact ⟨by first | rfl | (simp [errW_none, errW_some] <;> rfl) | (simp [*, errW_none, errW_some] <;> rfl), by repeat (first | (with_reducible first | exact HB.out | apply below_alloc | apply pw_below_drewN | apply below_drew1 | refine below_set ?_ GE226.out) | exact HB.out)⟩
      ·replace c15 := Bool.eq_false_iff.mpr c15
       subst c15
       have H1 : (some 2) = some r := by rw [if_neg (show ¬ (false = true) by decide)] at H; exact H
       clear H
       have H := H1
       clear H1
       obtain rfl := Option.some.inj H
       have hcz18_0 : wc.cell? ⟨gb226, 0, none⟩ = some (.int .i64 a0_0) := (blk_cell BK226.out 0).trans rfl
       have hcz18_1 : wc.cell? ⟨gb226, 1, none⟩ = some (.int .i64 a0_1) := (blk_cell BK226.out 1).trans rfl
       have hcz18_2 : wc.cell? ⟨gb226, 2, none⟩ = some (.slice A0_2 l0_2.length c0_2) := (blk_cell BK226.out 2).trans rfl
       have hfz18_0 := blk_frozen BK226.out 0
       have hfz18_1 := blk_frozen BK226.out 1
       have hfz18_2 := blk_frozen BK226.out 2
       go_wp2_with (first | (go_at_call 52; (with_reducible refine (chanceryref1_In.calls a0_1 1 1073741824 false _ A14.out).mono ?_); rintro e w' ⟨rfl, ⟨nd, rfl⟩⟩))
       go_ret
       exact ⟨by first | rfl | (simp [errW_none, errW_some] <;> rfl) | (simp [*, errW_none, errW_some] <;> rfl), by repeat (first | (with_reducible first | exact HB.out | apply below_alloc | apply pw_below_drewN | apply below_drew1 | refine below_set ?_ GE226.out) | exact HB.out)⟩
    ·rw [if_neg c10] at H
     have c10b0 : (a0_0 == 0) = false := beq_eq_false_iff_ne.mpr c10
     have c10b1 : (a0_0 != 0) = true := bne_iff_ne.mpr c10
     replace H := Option.bind_eq_some_iff.mp H
     obtain ⟨t230, A190, H⟩ := H
     replace H : (if t230 = true then (if a0_1 = 0 then ((chanceryref1_AttrsError.f kj1 l0_2 false).bind fun t231 => (some t231)) else ((chanceryref1_In.f a0_1 1 1073741824).bind fun t232 => (if t232 = true then ((chanceryref1_AttrsError.f kj1 l0_2 false).bind fun t233 => (some t233)) else (some 2)))) else (some 2)) = some r := H
     have A19 := Aside0.mk A190
     clear A190
     by_cases c20 : t230 = true
     ·subst c20
      have H1 : (if a0_1 = 0 then ((chanceryref1_AttrsError.f kj1 l0_2 false).bind fun t231 => (some t231)) else ((chanceryref1_In.f a0_1 1 1073741824).bind fun t232 => (if t232 = true then ((chanceryref1_AttrsError.f kj1 l0_2 false).bind fun t233 => (some t233)) else (some 2)))) = some r := by rw [if_pos rfl] at H; exact H
      clear H
      have H := H1
      clear H1
      by_cases c21 : a0_1 = 0
      ·rw [if_pos c21] at H
       have c21b0 : (a0_1 == 0) = true := beq_iff_eq.mpr c21
       have c21b1 : (a0_1 != 0) = false := bne_eq_false_iff_eq.mpr c21
       clear c21
       replace H := Option.bind_eq_some_iff.mp H
       obtain ⟨t231, A220, H⟩ := H
       replace H : (some t231) = some r := H
       have A22 := Aside0.mk A220
       clear A220
       obtain rfl := Option.some.inj H
       have hcz23_0 : wc.cell? ⟨gb226, 0, none⟩ = some (.int .i64 a0_0) := (blk_cell BK226.out 0).trans rfl
       have hcz23_1 : wc.cell? ⟨gb226, 1, none⟩ = some (.int .i64 a0_1) := (blk_cell BK226.out 1).trans rfl
       have hcz23_2 : wc.cell? ⟨gb226, 2, none⟩ = some (.slice A0_2 l0_2.length c0_2) := (blk_cell BK226.out 2).trans rfl
       have hfz23_0 := blk_frozen BK226.out 0
       have hfz23_1 := blk_frozen BK226.out 1
       have hfz23_2 := blk_frozen BK226.out 2
       go_wp2_with (first | (go_at_call 109; (with_reducible refine (chanceryref1_Char.calls a0_0 true _ A19.out).mono ?_); rintro e w' ⟨rfl, ⟨nd, rfl⟩⟩) | ((with_reducible refine gate_callee (f := 22) rfl ?_); refine goesL_ (some 43) rfl rfl Try.func22 (by kernel_rfl) rfl #[.slice A0_2 l0_2.length c0_2, .bool false] rfl (by (try simp only [List.map_toArray, List.map_cons, List.map_nil]); first | done | rfl | (simp only [List.length_drop, List.length_take]; rfl)) ?_; (with_reducible refine (chanceryref1_AttrsError.calls kj1 _ _ l0_2 false t231 _ ?side1 ?side2 A22.out).mono ?_); (case side1 => repeat (first | exact (Kd.C_below HR0_2.out (by repeat (first | (with_reducible first | exact HB.out | apply below_alloc | apply pw_below_drewN | apply below_drew1 | refine below_set ?_ GE226.out) | exact HB.out))) | (with_reducible refine Kd.C_alloc ?_ _) | (with_reducible refine Kd.C_drewN ?_ _) | (with_reducible refine Kd.C_drew ?_))); (case side2 => exact HC0_2.out); rintro e w' ⟨rfl, ⟨nd, rfl⟩⟩; refine ⟨_, rfl, ?_⟩))
       go_ret
       exact ⟨by first | rfl | (simp [errW_none, errW_some] <;> rfl) | (simp [*, errW_none, errW_some] <;> rfl), by repeat (first | (with_reducible first | exact HB.out | apply below_alloc | apply pw_below_drewN | apply below_drew1 | refine below_set ?_ GE226.out) | exact HB.out)⟩
      ·rw [if_neg c21] at H
       have c21b0 : (a0_1 == 0) = false := beq_eq_false_iff_ne.mpr c21
       have c21b1 : (a0_1 != 0) = true := bne_iff_ne.mpr c21
       replace H := Option.bind_eq_some_iff.mp H
       obtain ⟨t232, A240, H⟩ := H
       replace H : (if t232 = true then ((chanceryref1_AttrsError.f kj1 l0_2 false).bind fun t233 => (some t233)) else (some 2)) = some r := H
       have A24 := Aside0.mk A240
       clear A240
       by_cases c25 : t232 = true
       ·subst c25
        have H1 : ((chanceryref1_AttrsError.f kj1 l0_2 false).bind fun t233 => (some t233)) = some r := by rw [if_pos rfl] at H; exact H
        clear H
        have H := H1
        clear H1
        replace H := Option.bind_eq_some_iff.mp H
        obtain ⟨t233, A260, H⟩ := H
        replace H : (some t233) = some r := H
        have A26 := Aside0.mk A260
        clear A260
        obtain rfl := Option.some.inj H
        have hcz27_0 : wc.cell? ⟨gb226, 0, none⟩ = some (.int .i64 a0_0) := (blk_cell BK226.out 0).trans rfl
        have hcz27_1 : wc.cell? ⟨gb226, 1, none⟩ = some (.int .i64 a0_1) := (blk_cell BK226.out 1).trans rfl
        have hcz27_2 : wc.cell? ⟨gb226, 2, none⟩ = some (.slice A0_2 l0_2.length c0_2) := (blk_cell BK226.out 2).trans rfl
        have hfz27_0 := blk_frozen BK226.out 0
        have hfz27_1 := blk_frozen BK226.out 1
        have hfz27_2 := blk_frozen BK226.out 2
        go_wp2_with (first | (go_at_call 109; (with_reducible refine (chanceryref1_Char.calls a0_0 true _ A19.out).mono ?_); rintro e w' ⟨rfl, ⟨nd, rfl⟩⟩) | (go_at_call 52; (with_reducible refine (chanceryref1_In.calls a0_1 1 1073741824 true _ A24.out).mono ?_); rintro e w' ⟨rfl, ⟨nd, rfl⟩⟩) | ((with_reducible refine gate_callee (f := 22) rfl ?_); refine goesL_ (some 43) rfl rfl Try.func22 (by kernel_rfl) rfl #[.slice A0_2 l0_2.length c0_2, .bool false] rfl (by (try simp only [List.map_toArray, List.map_cons, List.map_nil]); first | done | rfl | (simp only [List.length_drop, List.length_take]; rfl)) ?_; (with_reducible refine (chanceryref1_AttrsError.calls kj1 _ _ l0_2 false t233 _ ?side1 ?side2 A26.out).mono ?_); (case side1 => repeat (first | exact (Kd.C_below HR0_2.out (by repeat (first | (with_reducible first | exact HB.out | apply below_alloc | apply pw_below_drewN | apply below_drew1 | refine below_set ?_ GE226.out) | exact HB.out))) | (with_reducible refine Kd.C_alloc ?_ _) | (with_reducible refine Kd.C_drewN ?_ _) | (with_reducible refine Kd.C_drew ?_))); (case side2 => exact HC0_2.out); rintro e w' ⟨rfl, ⟨nd, rfl⟩⟩; refine ⟨_, rfl, ?_⟩))
        go_ret
        exact ⟨by first | rfl | (simp [errW_none, errW_some] <;> rfl) | (simp [*, errW_none, errW_some] <;> rfl), by repeat (first | (with_reducible first | exact HB.out | apply below_alloc | apply pw_below_drewN | apply below_drew1 | refine below_set ?_ GE226.out) | exact HB.out)⟩
       ·replace c25 := Bool.eq_false_iff.mpr c25
        subst c25
        have H1 : (some 2) = some r := by rw [if_neg (show ¬ (false = true) by decide)] at H; exact H
        clear H
        have H := H1
        clear H1
        obtain rfl := Option.some.inj H
        have hcz28_0 : wc.cell? ⟨gb226, 0, none⟩ = some (.int .i64 a0_0) := (blk_cell BK226.out 0).trans rfl
        have hcz28_1 : wc.cell? ⟨gb226, 1, none⟩ = some (.int .i64 a0_1) := (blk_cell BK226.out 1).trans rfl
        have hcz28_2 : wc.cell? ⟨gb226, 2, none⟩ = some (.slice A0_2 l0_2.length c0_2) := (blk_cell BK226.out 2).trans rfl
        have hfz28_0 := blk_frozen BK226.out 0
        have hfz28_1 := blk_frozen BK226.out 1
        have hfz28_2 := blk_frozen BK226.out 2
        go_wp2_with (first | (go_at_call 109; (with_reducible refine (chanceryref1_Char.calls a0_0 true _ A19.out).mono ?_); rintro e w' ⟨rfl, ⟨nd, rfl⟩⟩) | (go_at_call 52; (with_reducible refine (chanceryref1_In.calls a0_1 1 1073741824 false _ A24.out).mono ?_); rintro e w' ⟨rfl, ⟨nd, rfl⟩⟩))
        go_ret
        exact ⟨by first | rfl | (simp [errW_none, errW_some] <;> rfl) | (simp [*, errW_none, errW_some] <;> rfl), by repeat (first | (with_reducible first | exact HB.out | apply below_alloc | apply pw_below_drewN | apply below_drew1 | refine below_set ?_ GE226.out) | exact HB.out)⟩
     ·replace c20 := Bool.eq_false_iff.mpr c20
      subst c20
      have H1 : (some 2) = some r := by rw [if_neg (show ¬ (false = true) by decide)] at H; exact H
      clear H
      have H := H1
      clear H1
      obtain rfl := Option.some.inj H
      have hcz29_0 : wc.cell? ⟨gb226, 0, none⟩ = some (.int .i64 a0_0) := (blk_cell BK226.out 0).trans rfl
      have hcz29_1 : wc.cell? ⟨gb226, 1, none⟩ = some (.int .i64 a0_1) := (blk_cell BK226.out 1).trans rfl
      have hcz29_2 : wc.cell? ⟨gb226, 2, none⟩ = some (.slice A0_2 l0_2.length c0_2) := (blk_cell BK226.out 2).trans rfl
      have hfz29_0 := blk_frozen BK226.out 0
      have hfz29_1 := blk_frozen BK226.out 1
      have hfz29_2 := blk_frozen BK226.out 2
      go_wp2_with (first | (go_at_call 109; (with_reducible refine (chanceryref1_Char.calls a0_0 false _ A19.out).mono ?_); rintro e w' ⟨rfl, ⟨nd, rfl⟩⟩))
      go_ret
      exact ⟨by first | rfl | (simp [errW_none, errW_some] <;> rfl) | (simp [*, errW_none, errW_some] <;> rfl), by repeat (first | (with_reducible first | exact HB.out | apply below_alloc | apply pw_below_drewN | apply below_drew1 | refine below_set ?_ GE226.out) | exact HB.out)⟩
end Go.Proofs.Ytdgemabmmomebaa.PDelta
end

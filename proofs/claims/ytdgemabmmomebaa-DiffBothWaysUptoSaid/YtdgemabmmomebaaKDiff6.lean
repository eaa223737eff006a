/- Parts of the proof of Diff: nothing is claimed here by itself. -/
import Derived.Test.YtdgemabmmomebaaKDiff5
set_option linter.unusedVariables false
set_option linter.unusedSimpArgs false
section
namespace Go.Proofs.Ytdgemabmmomebaa.PDelta
open Go.RowKit Go.Proofs.YtdgemabmmomebaaW.PrintWords Go.Proofs.YtdgemabmmomebaaW.PrintLast Go.Proofs.YtdgemabmmomebaaW.PrintMore
def raw100.T4 : Bool × List (List Nat × List Nat) := (true, [([], []), ([], []), ([1], [1]), ([2], [2]), ([0, 3], [0, 3]), ([4], [4]), ([], []), ([], []), ([7], [7]), ([8], [8]), ([6, 9], [6, 9]), ([10], [10]), ([], []), ([], []), ([12, 5, 0, 1, 2, 3, 4, 5, 12, 13], [5, 12]), ([13, 11, 14, 0, 1, 2, 3, 4, 5, 6, 7, 8, 9, 10, 11, 12, 13, 14], [11, 13])])
def raw100.B4 : List Nat := [0, 0, 2, 6, 15, 31, 0, 0, 128, 384, 960, 1984, 0, 0, 12351, 32767]
theorem raw100.tab4 : rtab .any (opsOf Try.f100 4) = raw100.T4 := by kernel_rfl
theorem raw100.bits4 : waitsOk raw100.T4.2 raw100.B4 = true := by kernel_rfl
def raw100.T6 : Bool × List (List Nat × List Nat) := (true, [([], []), ([], []), ([1], [1]), ([2], [2]), ([0, 3], [0, 3]), ([], []), ([], []), ([6], [6]), ([7], [7]), ([5, 8], [5, 8]), ([4, 0, 1, 2, 3, 4], [0, 1, 4]), ([9, 10, 0, 1, 2, 3, 4, 5, 6, 7, 8, 9, 10], [5, 6, 9])])
def raw100.B6 : List Nat := [0, 0, 2, 6, 15, 0, 0, 64, 192, 480, 31, 2047]
theorem raw100.tab6 : rtab .any (opsOf Try.f100 6) = raw100.T6 := by kernel_rfl
theorem raw100.bits6 : waitsOk raw100.T6.2 raw100.B6 = true := by kernel_rfl
def raw100.T13 : Bool × List (List Nat × List Nat) := (true, [([], []), ([], []), ([1], [1]), ([0, 2], [0, 2]), ([3], [3]), ([4], [4]), ([4], [4]), ([6, 4], [4, 6]), ([5, 7, 4], [4, 5, 7]), ([4, 8], [4, 8]), ([9, 4], [9]), ([10], [10]), ([10], [10]), ([11, 12, 10], [10, 11, 12]), ([13, 10], [10, 13]), ([10], [10]), ([10], [10]), ([15, 16, 10], [10, 15, 16]), ([17, 10], [10, 17]), ([14, 18, 10, 10], [10, 14, 18]), ([10, 19], [10, 19]), ([20, 19], [20]), ([21], [21]), ([21], [21]), ([22, 23, 21], [21, 22, 23]), ([24, 21], [21, 24]), ([21], [21]), ([25, 26, 21], [21, 25, 26]), ([27, 21], [21, 27]), ([21], [21]), ([21], [21]), ([30, 21], [21, 30]), ([29, 31, 21], [21, 29, 31]), ([32, 21], [21, 32]), ([21], [21]), ([34, 21], [21, 34]), ([33, 35, 21], [21, 33, 35]), ([36, 21], [21, 36]), ([21], [21]), ([21], [21]), ([38, 39, 21], [21, 38, 39]), ([40, 21], [21, 40]), ([21], [21]), ([21], [21]), ([42, 43, 21], [21, 42, 43]), ([44, 21], [21, 44]), ([41, 45, 21, 21], [21, 41, 45]), ([37, 46, 21], [21, 37, 46]), ([28, 47, 21], [21, 28, 47]), ([21, 48], [21, 48]), ([49, 46], [49])])
def raw100.B13 : List Nat := [0, 0, 2, 7, 15, 31, 31, 95, 255, 511, 1023, 2047, 2047, 8191, 16383, 2047, 2047, 100351, 231423, 524287, 1048575, 2097151, 4194303, 4194303, 16777215, 33554431, 4194303, 134217727, 268435455, 4194303, 4194303, 1077936127, 3762290687, 8057257983, 4194303, 17184063487, 68186800127, 136906276863, 4194303, 4194303, 824637915135, 1924149542911, 4194303, 4194303, 13194143727615, 30786329772031, 70093870465023, 140736955678719, 281474976710655, 562949953421311, 1125899906842623]
theorem raw100.tab13 : rtab .any (opsOf Try.f100 13) = raw100.T13 := by kernel_rfl
theorem raw100.bits13 : waitsOk raw100.T13.2 raw100.B13 = true := by kernel_rfl
def raw100.T14 : Bool × List (List Nat × List Nat) := (true, [([], []), ([], []), ([], []), ([1, 2], [1, 2]), ([3], [3]), ([4], [4]), ([], []), ([], []), ([6, 7], [6, 7]), ([8], [8]), ([9], [9]), ([5, 10], [5, 10]), ([11], [11]), ([12], [12]), ([0, 13, 11], [0, 13]), ([14, 14, 0, 1, 2, 3, 4, 5, 6, 7, 8, 9, 10, 11, 12, 13, 14], [0, 14])])
def raw100.B14 : List Nat := [0, 0, 0, 6, 14, 30, 0, 0, 192, 448, 960, 2046, 4094, 8190, 16383, 32767]
theorem raw100.tab14 : rtab .any (opsOf Try.f100 14) = raw100.T14 := by kernel_rfl
theorem raw100.bits14 : waitsOk raw100.T14.2 raw100.B14 = true := by kernel_rfl
def raw100.T16 : Bool × List (List Nat × List Nat) := (true, [([], []), ([], []), ([1], [1]), ([0, 2], [0, 2]), ([3], [3]), ([4], [4]), ([4], [4]), ([6, 4], [4, 6]), ([5, 7, 4], [4, 5, 7]), ([8, 4, 4], [4, 8]), ([9], [9]), ([9], [9]), ([10, 11, 9], [9, 10, 11]), ([12, 9], [9, 12]), ([9], [9]), ([13, 14, 9], [9, 13, 14]), ([15, 9], [9, 15]), ([9], [9]), ([9], [9]), ([18, 9], [9, 18]), ([17, 19, 9], [9, 17, 19]), ([20, 9], [9, 20]), ([9], [9]), ([21, 22, 9], [9, 21, 22]), ([23, 9], [9, 23]), ([24, 9], [9, 24]), ([16, 25, 9], [9, 16, 25]), ([9, 26, 4], [4, 9, 26]), ([4, 27], [4, 27]), ([28, 9], [28])])
def raw100.B16 : List Nat := [0, 0, 2, 7, 15, 31, 31, 95, 255, 511, 1023, 1023, 4095, 8191, 1023, 32767, 65535, 1023, 1023, 263167, 918527, 1967103, 1023, 8258559, 16647167, 33424383, 67108863, 134217727, 268435455, 536870911]
theorem raw100.tab16 : rtab .any (opsOf Try.f100 16) = raw100.T16 := by kernel_rfl
theorem raw100.bits16 : waitsOk raw100.T16.2 raw100.B16 = true := by kernel_rfl
theorem new_F {α β : Type} {d : Kd α} {d' : Kd β} {e e' base : Nat} {W w1 : World} {ok ok' : Nat → Prop} {v : Value} {A : Option Addr} {n c : Nat} {xs : List α} {ys : List β} (hR : d.R e w1 W.heap.size ok (.slice A n c) xs) (hN : Kd.N d' e' W base ok' v ys) : Kd.F d w1 (fun k => some k ≠ v.ownBlock) A n xs :=
 Kd.F_mono (Kd.R_F (Kd.R_bound hR)) (fun k hk he => by have h1 := Kd.N_lt hN k he.symm; have h2 := hk.2.1; omega)
theorem take_oneE (b : List S84) (j : Nat) (h : j < b.length) : (b.take (j + 1)).drop j = [rd_T84 b (j : Int)] := by
 rw [List.drop_take, drop_T84 b j h, Nat.add_sub_cancel_left]
 rfl
theorem cellT_some {t : List (List Int)} {i j c : Int} (h : cellT t i j = some c) : (0 ≤ i ∧ i < (t.length : Int) ∧ 0 ≤ j ∧ j < ((rd_L7 t i).length : Int)) ∧ rd (rd_L7 t i) j = c := by
 unfold cellT at h
 split at h
 ·exact ⟨by assumption, Option.some.inj h⟩
 ·cases h
theorem old_F {α β : Type} {d : Kd α} {d' : Kd β} {e' : Nat} (hd : Kd.Heap d) {w0 w : World} {ok : Nat → Prop} {v : Value} {A : Option Addr} {xs : List α} {ys : List β} (hC : Kd.C d w0 A xs.length xs) (hN : Kd.N d' e' w w0.heap.size ok v ys) (hB : Below w0.heap.size w0 w) : Kd.F d w (fun k => some k ≠ v.ownBlock) A xs.length xs :=
 Kd.F_mono (Kd.F_step (Kd.C_F hd hC) (fun k hk _ => hB.block k hk)) (fun k hk e => by have := Kd.N_base hN k e.symm; omega)
theorem two_boxes {W : World} {g1 g2 : Nat} {p0 p1 p2 q0 q1 q2 : Value} {t : TypeId} (h1 : W.heap[g1]? = some (.cells #[p0, p1, p2] t (0, 0))) (h2 : W.heap[g2]? = some (.cells #[q0, q1, q2] t (0, 0))) (hne : g1 ≠ g2) (a b c a' b' c' : Value) :
  ((((((W.setCell ⟨g1, 0, none⟩ a).setCell ⟨g1, 1, none⟩ b).setCell ⟨g1, 2, none⟩ c).setCell ⟨g2, 0, none⟩ a').setCell ⟨g2, 1, none⟩ b').setCell ⟨g2, 2, none⟩ c').heap[g1]? = some (.cells #[a, b, c] t (0, 0)) ∧
  ((((((W.setCell ⟨g1, 0, none⟩ a).setCell ⟨g1, 1, none⟩ b).setCell ⟨g1, 2, none⟩ c).setCell ⟨g2, 0, none⟩ a').setCell ⟨g2, 1, none⟩ b').setCell ⟨g2, 2, none⟩ c').heap[g2]? = some (.cells #[a', b', c'] t (0, 0)) :=
 ⟨blk_far (blk_far (blk_far (blk_put (blk_put (blk_put h1 0 a rfl) 1 b rfl) 2 c rfl) hne a') hne b') hne c',
  blk_put (blk_put (blk_put (blk_far (blk_far (blk_far h2 (Ne.symm hne) a) (Ne.symm hne) b) (Ne.symm hne) c) 0 a' rfl) 1 b' rfl) 2 c' rfl⟩
theorem far3 {B : Nat} {W : World} {g : Nat} {p : Addr} {v : Value} (h : W.cell? p = some v) (hp : p.block < B) (hg : B ≤ g) (a b c : Value) : (((W.setCell ⟨g, 0, none⟩ a).setCell ⟨g, 1, none⟩ b).setCell ⟨g, 2, none⟩ c).cell? p = some v :=
 have hn : p.block ≠ g := by omega
 (cell_far hn c).trans ((cell_far hn b).trans ((cell_far hn a).trans h))
theorem last_at {w : World} {A : Option Addr} {l : List S84} (h : Kd.C k84 w A l.length l) (hl : 0 < l.length) : ∃ n ad A2 c2, l.length = n + 1 ∧ A = some ad ∧ w.cell? (ad.add (n * 3)) = some (.int .i64 (lastE l).f0) ∧ w.cell? ⟨(ad.add (n * 3)).block, (ad.add (n * 3)).off + 1, none⟩ = some (.int .i64 (lastE l).f1) ∧ w.cell? ⟨(ad.add (n * 3)).block, (ad.add (n * 3)).off + 2, none⟩ = some (.slice A2 (lastE l).f2.length c2) ∧ (lastE l).f2.length ≤ c2 ∧ k38.C w A2 (lastE l).f2.length (lastE l).f2 := by
 obtain ⟨ad, A2, c2, e, h1, h2, h3, h4, h5⟩ := at_T84 h ((l.length : Int) - 1) (by omega) (by omega)
 have hn : ((l.length : Int) - 1).toNat = l.length - 1 := by omega
 rw [hn] at h1 h2 h3
 exact ⟨l.length - 1, ad, A2, c2, by omega, e, h1, h2, h3, h4, h5⟩
set_option maxRecDepth 100000 in
set_option maxHeartbeats 40000000 in
theorem raw_calls0 (n0 n1 : Nat) (k : Nat) (A0 : Option Addr) (c0 : Nat) (a : List S84) (A1 : Option Addr) (c1 : Nat) (b : List S84) (d : List S70) (w : World) (hr0 : Kd.C k84 w A0 a.length a) (hc0 : a.length ≤ c0) (hr1 : Kd.C k84 w A1 b.length b) (hc1 : b.length ≤ c1) (la : a.length ≤ 1048576) (lb : b.length ≤ 1048576)
  (hn0 : a.length = n0) (hn1 : b.length = n1) (h : rawF k a b = some d) :
  Calls Try.prog 100 #[.slice A0 n0 c0, .slice A1 n1 c1] w fun e w' => ∃ v : Value, e = .returned v ∧ Kd.N k70 70 w' w.heap.size (fun _ => True) v d ∧ Below w.heap.size w w' := by
 have hu84 := Try.underlying84
 have hu70 := Try.underlying70
 have HR0 := Aside0.mk hr0
 have HC0 := Aside0.mk hc0
 have HR1 := Aside0.mk hr1
 have HC1 := Aside0.mk hc1
 have HLA := Aside0.mk la
 have HLB := Aside0.mk lb
 have HF := Aside0.mk h
 have HN0 := Aside0.mk hn0
 have HN1 := Aside0.mk hn1
 clear hr0 hc0 hr1 hc1 la lb h hn0 hn1
 have HB0 := Aside0.mk (Below.refl w.heap.size w)
 go_enter Try.func100, Try.ntmps100
 go_upto_region 1 with (fail)
 go_cut [5] (fun v5 wx => ∃ tb : Bool, v5 = .bool tb ∧ Aside0 (tb = decide (Tied a b)) ∧ Aside0 (Below w.heap.size w wx))
 case first =>
  as_aux_lemma =>
   by_cases ha : 0 < n0
   rotate_left
   ·have g1 : decide ((0 : Int) < (n0 : Int)) = false := decide_eq_false (by omega)
    have g1' : decide (0 < n0) = false := decide_eq_false ha
    have HT := Aside0.mk (show decide (Tied a b) = false from decide_eq_false (fun h => ha (by have := h.1; have := HN0.out; omega)))
    clear ha
    go_wp2
    go_meet
    case rel => exact ⟨_, rfl, ⟨HT.out.symm⟩, HB0⟩
   have g1 : decide ((0 : Int) < (n0 : Int)) = true := decide_eq_true (by omega)
   have g1' : decide (0 < n0) = true := decide_eq_true ha
   by_cases hb : 0 < n1
   rotate_left
   ·have g2 : decide ((0 : Int) < (n1 : Int)) = false := decide_eq_false (by omega)
    have g2' : decide (0 < n1) = false := decide_eq_false hb
    have HT := Aside0.mk (show decide (Tied a b) = false from decide_eq_false (fun h => hb (by have := h.2.1; have := HN1.out; omega)))
    clear ha hb
    go_wp2
    go_meet
    case rel => exact ⟨_, rfl, ⟨HT.out.symm⟩, HB0⟩
   clear g1 g1'
   have hpa : 0 < a.length := by have := HN0.out; omega
   have hpb : 0 < b.length := by have := HN1.out; omega
   obtain ⟨n, ad, A2, c2, hn, rfl, hx0, hx1, hx2, hl2, hg2⟩ := last_at HR0.out hpa
   obtain ⟨m, bd, B2, m2, hm, rfl, hy0, hy1, hy2, hk2, hj2⟩ := last_at HR1.out hpb
   obtain rfl : n0 = n + 1 := by have := HN0.out; omega
   obtain rfl : n1 = m + 1 := by have := HN1.out; omega
   clear hx1 hx2 hl2 hg2 hy1 hy2 hk2 hj2
   have hT : decide (Tied a b) = (((lastE a).f0 == 10) && ((lastE b).f0 == 10)) := by
    rw [Bool.eq_iff_iff, Bool.and_eq_true, decide_eq_true_iff, beq_iff_eq, beq_iff_eq]
    exact ⟨fun h => h.2.2, fun h => ⟨hpa, hpb, h⟩⟩
   have HT := Aside0.mk hT
   clear hT ha hb hpa hpb
   obtain ⟨x, hx⟩ : ∃ x, x = (lastE a).f0 := ⟨_, rfl⟩
   obtain ⟨y, hy⟩ : ∃ y, y = (lastE b).f0 := ⟨_, rfl⟩
   rw [← hx] at hx0 HT
   rw [← hy] at hy0 HT
   clear hx hy
   have l0 : (n : Int) ≤ 1048576 := by have := HLA.out; omega
   have l1 : (m : Int) ≤ 1048576 := by have := HLB.out; omega
   clear hn hm
   obtain ⟨qx, hqx⟩ : ∃ q : Bool, (x == 10) = q := ⟨_, rfl⟩
   rw [hqx] at HT
   cases qx with
   | false =>
    go_wp2
    go_meet
    case rel => exact ⟨_, rfl, ⟨by rw [HT.out]; rfl⟩, HB0⟩
   | true =>
    go_wp2
    go_meet
    case rel => exact ⟨_, rfl, ⟨by rw [HT.out]; simp⟩, HB0⟩
 case rest =>
 obtain ⟨tb, rfl, HTB0, HB1⟩ := hcut
 clear HB0
 go_upto_if 43 with (fail)
 go_cut [0, 1, 6] (fun v0 v1 v6 wx => ∃ (A2 : Option Addr) (a' : List S84) (B2 : Option Addr) (b' : List S84) (last : List S70), v0 = .slice A2 a'.length c0 ∧ v1 = .slice B2 b'.length c1 ∧ Aside0 (Kd.C k84 wx A2 a'.length a' ∧ a'.length ≤ c0 ∧ a'.length ≤ 1048576) ∧ Aside0 (Kd.C k84 wx B2 b'.length b' ∧ b'.length ≤ c1 ∧ b'.length ≤ 1048576) ∧ Aside0 (Kd.N k70 70 wx w.heap.size (fun _ => True) v6 last ∧ last.length ≤ 1) ∧ Aside0 (rawC k a' b' last = some d) ∧ Aside0 (Below w.heap.size w wx))
 case first =>
  as_aux_lemma =>
   by_cases ht : Tied a b
   rotate_left
   ·obtain rfl : tb = false := HTB0.out.trans (decide_eq_false ht)
    have HF2 := Aside0.mk (show rawC k a b [] = some d from by have := HF.out; unfold rawF at this; rw [if_neg ht] at this; exact this)
    clear ht
    go_wp2
    go_meet
    case rel => exact ⟨A0, a, A1, b, [], by rw [HN0.out], by rw [HN1.out], ⟨Kd.C_below HR0.out HB1.out, HC0.out, HLA.out⟩, ⟨Kd.C_below HR1.out HB1.out, HC1.out, HLB.out⟩, ⟨Kd.N_nil _ _ _ _ _, Nat.zero_le _⟩, HF2, HB1⟩
   obtain rfl : tb = true := HTB0.out.trans (decide_eq_true ht)
   have hF := HF.out
   unfold rawF at hF
   rw [if_pos ht] at hF
   obtain ⟨ch, hch, hF⟩ := Option.bind_eq_some_iff.1 hF
   have HCH := Aside0.mk hch
   have HF2 := Aside0.mk hF
   obtain ⟨n, ad, A2, c2, hn, rfl, hx0, hx1, hx2, hl2, hg2⟩ := last_at HR0.out ht.1
   obtain ⟨m, bd, B2, m2, hm, rfl, hy0, hy1, hy2, hk2, hj2⟩ := last_at HR1.out ht.2.1
   clear ht hch hF
   obtain ⟨x, hx⟩ : ∃ x, x = lastE a := ⟨_, rfl⟩
   obtain ⟨y, hy⟩ : ∃ y, y = lastE b := ⟨_, rfl⟩
   rw [← hx] at hx0 hx1 hx2 hl2 hg2 HCH
   rw [← hy] at hy0 hy1 hy2 hk2 hj2 HCH
   clear hx hy
   obtain rfl : n0 = n + 1 := by have := HN0.out; omega
   obtain rfl : n1 = m + 1 := by have := HN1.out; omega
   have HTA := Aside0.mk (show (a.take (a.length - 1)).length = n by rw [List.length_take]; omega)
   have HTB := Aside0.mk (show (b.take (b.length - 1)).length = m by rw [List.length_take]; omega)
   have HLX := Aside0.mk hl2
   have HLY := Aside0.mk hk2
   have HGX := Aside0.mk hg2
   have HGY := Aside0.mk hj2
   have l0 : (n : Int) ≤ 1048576 := by have := HLA.out; omega
   have l1 : (m : Int) ≤ 1048576 := by have := HLB.out; omega
   clear hn hm hl2 hk2 hg2 hj2 HTB0
   go_upto_region 4 with (fail)
   have HBD := Aside0.mk (below_drew1 HB1.out)
   clear HB1
   have wn : wrap64 (n : Int) = (n : Int) := w64 (by omega) (by omega)
   have wm : wrap64 (m : Int) = (m : Int) := w64 (by omega) (by omega)
   have pn : (0 : Int) ≤ (n : Int) := by omega
   have pm : (0 : Int) ≤ (m : Int) := by omega
   have qn : (n : Int) < (n : Int) + 1 := by omega
   have qm : (m : Int) < (m : Int) + 1 := by omega
   refine start_ (n := 16) (S := fun w' => w'.cell? (ad.add (n * 3)) = some (.int .i64 x.f0) ∧ w'.cell? ⟨(ad.add (n * 3)).block, (ad.add (n * 3)).off + 1, none⟩ = some (.int .i64 x.f1) ∧ w'.cell? ⟨(ad.add (n * 3)).block, (ad.add (n * 3)).off + 2, none⟩ = some (.slice A2 x.f2.length c2) ∧ w'.cell? (bd.add (m * 3)) = some (.int .i64 y.f0) ∧ w'.cell? ⟨(bd.add (m * 3)).block, (bd.add (m * 3)).off + 1, none⟩ = some (.int .i64 y.f1) ∧ w'.cell? ⟨(bd.add (m * 3)).block, (bd.add (m * 3)).off + 2, none⟩ = some (.slice B2 y.f2.length m2)) (ds := [15]) #[false, false, false, false, false, false, false, false, false, false, false, false, false, false, false, false] (by kernel_rfl) rfl rfl ⟨((HBD.out.cell (World.block_lt_of_cell? w _ hx0)).trans hx0), ((HBD.out.cell (World.block_lt_of_cell? w _ hx1)).trans hx1), ((HBD.out.cell (World.block_lt_of_cell? w _ hx2)).trans hx2), ((HBD.out.cell (World.block_lt_of_cell? w _ hy0)).trans hy0), ((HBD.out.cell (World.block_lt_of_cell? w _ hy1)).trans hy1), ((HBD.out.cell (World.block_lt_of_cell? w _ hy2)).trans hy2)⟩ (fun hHeld => ?_)
   refine with_tabW raw100.tab4 raw100.bits4 (fun HT_ HW_ => ?_)
   refine pure_ (i := 0) (N := some 44) (v := ?_) (a' := ?_) (bm 1 16) rfl rfl (any_of HT_.out (by kernel_rfl)) (fun _ _ _ h => h) (Or.inl ⟨by rfl, ?_⟩) ?_ ?_
   rotate_left
   ·intro w'
    go_simp
    with_reducible rfl
   rotate_left
   ·simp only [Act.put, sA, sB, sC, i64_w, i32_w]
    rfl
   refine pure_ (i := 1) (N := some 45) (v := ?_) (a' := ?_) (bm 3 16) rfl rfl (any_of HT_.out (by kernel_rfl)) (fun _ _ _ h => h) (Or.inl ⟨by rfl, ?_⟩) ?_ ?_
   rotate_left
   ·intro w'
    go_simp
    with_reducible rfl
   rotate_left
   ·simp only [Act.put, sA, sB, sC, i64_w, i32_w]
    rfl
   refine pure_ (i := 2) (N := some 46) (v := ?_) (a' := ?_) (bm 7 16) rfl rfl (any_of HT_.out (by kernel_rfl)) (fun _ _ _ h => h) (Or.inl ⟨by rfl, ?_⟩) ?_ ?_
   rotate_left
   ·intro w'
    go_simp
    with_reducible rfl
   rotate_left
   ·simp only [Act.put, sA, sB, sC, i64_w, i32_w]
    rfl
   refine pure_ (i := 3) (N := some 47) (v := ?_) (a' := ?_) (bm 15 16) rfl rfl (any_of HT_.out (by kernel_rfl)) (fun _ _ _ h => h) (Or.inl ⟨by rfl, ?_⟩) ?_ ?_
   rotate_left
   ·intro w'
    go_simp
    with_reducible rfl
   rotate_left
   ·simp only [Act.put, sA, sB, sC, i64_w, i32_w]
    rfl
   refine pure_ (i := 4) (N := some 48) (v := ?_) (a' := ?_) (bm 31 16) rfl rfl (any_of HT_.out (by kernel_rfl)) (fun _ _ _ h => h) (Or.inl ⟨by rfl, ?_⟩) ?_ ?_
   rotate_left
   ·intro w'
    go_simp
    with_reducible rfl
   rotate_left
   ·simp only [Act.put, sA, sB, sC, i64_w, i32_w]
    rfl
   refine pure_ (i := 6) (N := some 50) (v := ?_) (a' := ?_) (bm 95 16) rfl rfl (any_of HT_.out (by kernel_rfl)) (fun _ _ _ h => h) (Or.inl ⟨by rfl, ?_⟩) ?_ ?_
   rotate_left
   ·intro w'
    go_simp
    with_reducible rfl
   rotate_left
   ·simp only [Act.put, sA, sB, sC, i64_w, i32_w]
    rfl
   refine pure_ (i := 7) (N := some 51) (v := ?_) (a' := ?_) (bm 223 16) rfl rfl (any_of HT_.out (by kernel_rfl)) (fun _ _ _ h => h) (Or.inl ⟨by rfl, ?_⟩) ?_ ?_
   rotate_left
   ·intro w'
    go_simp
    with_reducible rfl
   rotate_left
   ·simp only [Act.put, sA, sB, sC, i64_w, i32_w]
    rfl
   refine pure_ (i := 8) (N := some 52) (v := ?_) (a' := ?_) (bm 479 16) rfl rfl (any_of HT_.out (by kernel_rfl)) (fun _ _ _ h => h) (Or.inl ⟨by rfl, ?_⟩) ?_ ?_
   rotate_left
   ·intro w'
    go_simp
    with_reducible rfl
   rotate_left
   ·simp only [Act.put, sA, sB, sC, i64_w, i32_w]
    rfl
   refine pure_ (i := 9) (N := some 53) (v := ?_) (a' := ?_) (bm 991 16) rfl rfl (any_of HT_.out (by kernel_rfl)) (fun _ _ _ h => h) (Or.inl ⟨by rfl, ?_⟩) ?_ ?_
   rotate_left
   ·intro w'
    go_simp
    with_reducible rfl
   rotate_left
   ·simp only [Act.put, sA, sB, sC, i64_w, i32_w]
    rfl
   refine pure_ (i := 10) (N := some 54) (v := ?_) (a' := ?_) (bm 2015 16) rfl rfl (any_of HT_.out (by kernel_rfl)) (fun _ _ _ h => h) (Or.inl ⟨by rfl, ?_⟩) ?_ ?_
   rotate_left
   ·intro w'
    go_simp
    with_reducible rfl
   rotate_left
   ·simp only [Act.put, sA, sB, sC, i64_w, i32_w]
    rfl
   refine take_ (i := 5) (N := some 49) (v := ?_) (a' := ?_) (bm 2047 16) rfl rfl (take_ofW HT_.out HW_.out (by kernel_rfl)) (fun _ _ _ h => h) (Or.inl ⟨by rfl, ?_⟩) hHeld ?_ ?_
   rotate_left
   ·rintro w' ⟨s0, s1, s2, s3, s4, s5⟩
    go_simp
    with_reducible rfl
   rotate_left
   ·simp only [Act.put, sA, sB, sC, i64_w, i32_w]
    rfl
   refine take_ (i := 11) (N := some 55) (v := ?_) (a' := ?_) (bm 4095 16) rfl rfl (take_ofW HT_.out HW_.out (by kernel_rfl)) (fun _ _ _ h => h) (Or.inl ⟨by rfl, ?_⟩) hHeld ?_ ?_
   rotate_left
   ·rintro w' ⟨s0, s1, s2, s3, s4, s5⟩
    go_simp
    with_reducible rfl
   rotate_left
   ·simp only [Act.put, sA, sB, sC, i64_w, i32_w]
    rfl
   refine join_ (σ := Nat × Nat) 2 (bm 16383 16) (fun s_ => [(7, .pointer (some ⟨s_.1, 0, none⟩)), (8, .pointer (some ⟨s_.2, 0, none⟩))]) (fun s_ w' => (w'.cell? (ad.add (n * 3)) = some (.int .i64 x.f0) ∧ w'.cell? ⟨(ad.add (n * 3)).block, (ad.add (n * 3)).off + 1, none⟩ = some (.int .i64 x.f1) ∧ w'.cell? ⟨(ad.add (n * 3)).block, (ad.add (n * 3)).off + 2, none⟩ = some (.slice A2 x.f2.length c2) ∧ w'.cell? (bd.add (m * 3)) = some (.int .i64 y.f0) ∧ w'.cell? ⟨(bd.add (m * 3)).block, (bd.add (m * 3)).off + 1, none⟩ = some (.int .i64 y.f1) ∧ w'.cell? ⟨(bd.add (m * 3)).block, (bd.add (m * 3)).off + 2, none⟩ = some (.slice B2 y.f2.length m2)) ∧ w'.heap[s_.1]? = some (.cells #[.int .i64 0, .int .i64 0, .slice none 0 0] 84 (0, 0)) ∧ w'.heap[s_.2]? = some (.cells #[.int .i64 0, .int .i64 0, .slice none 0 0] 84 (0, 0)) ∧ s_.1 ≠ s_.2 ∧ w.heap.size ≤ s_.1 ∧ w.heap.size ≤ s_.2 ∧ Below w.heap.size w w') ?_ ?_
   rotate_left
   ·intro hCont
    refine two_ (i := 12) (j := 13) (Ni := some 7) (Nj := some 8) (bm 8191 16) (bm 12287 16) rfl rfl rfl rfl (two_of HT_.out (by kernel_rfl)) (by decide) (by decide) (fun K hK => ?_) (fun K hK => ?_)
    ·skip
     refine box_step ?hg (N := 7) ?hd (cs := #[.int .i64 0, .int .i64 0, .slice none 0 0]) (t := 84) ?hr ?_; (case hd => rfl); (case hg => rfl); (case hr => first | (go_simp; done) | (go_simp; rfl))
     intro g12_ hg_ w_12 hbox hb_
     have HS0_ := (hb_.cell (World.block_lt_of_cell? _ _ (hHeld.1))).trans (hHeld.1)
     have HS1_ := (hb_.cell (World.block_lt_of_cell? _ _ (hHeld.2.1))).trans (hHeld.2.1)
     have HS2_ := (hb_.cell (World.block_lt_of_cell? _ _ (hHeld.2.2.1))).trans (hHeld.2.2.1)
     have HS3_ := (hb_.cell (World.block_lt_of_cell? _ _ (hHeld.2.2.2.1))).trans (hHeld.2.2.2.1)
     have HS4_ := (hb_.cell (World.block_lt_of_cell? _ _ (hHeld.2.2.2.2.1))).trans (hHeld.2.2.2.2.1)
     have HS5_ := (hb_.cell (World.block_lt_of_cell? _ _ (hHeld.2.2.2.2.2))).trans (hHeld.2.2.2.2.2)
     have HBE := Aside0.mk (below_step HBD.out hb_)
     have BK12 := Aside0.mk hbox
     have GE12 : Aside0 (w.heap.size ≤ g12_) := ⟨by rw [hg_]; exact HBD.out.size⟩
     clear hb_ hbox hg_
     refine hK.out _ _ ⟨HS0_, HS1_, HS2_, HS3_, HS4_, HS5_⟩ (fun hHeld => ?_)
     clear hK K
     refine norm_ (a' := ?_) ?_ ?_
     rotate_left
     ·show Act.put _ (some 7) _ = _
      simp only [Act.put, sA, sB, sC, i64_w, i32_w]
      rfl
     refine one_ (i := 13) (N := some 8) (bm 16383 16) rfl rfl (one_of HT_.out (by kernel_rfl)) (by decide) (fun K hK => ?_)
     refine box_step ?hg (N := 8) ?hd (cs := #[.int .i64 0, .int .i64 0, .slice none 0 0]) (t := 84) ?hr ?_; (case hd => rfl); (case hg => rfl); (case hr => first | (go_simp; done) | (go_simp; rfl))
     intro g13_ hg_ w_13 hbox hb_
     have HS0_ := (hb_.cell (World.block_lt_of_cell? _ _ (hHeld.1))).trans (hHeld.1)
     have HS1_ := (hb_.cell (World.block_lt_of_cell? _ _ (hHeld.2.1))).trans (hHeld.2.1)
     have HS2_ := (hb_.cell (World.block_lt_of_cell? _ _ (hHeld.2.2.1))).trans (hHeld.2.2.1)
     have HS3_ := (hb_.cell (World.block_lt_of_cell? _ _ (hHeld.2.2.2.1))).trans (hHeld.2.2.2.1)
     have HS4_ := (hb_.cell (World.block_lt_of_cell? _ _ (hHeld.2.2.2.2.1))).trans (hHeld.2.2.2.2.1)
     have HS5_ := (hb_.cell (World.block_lt_of_cell? _ _ (hHeld.2.2.2.2.2))).trans (hHeld.2.2.2.2.2)
     have HBF := Aside0.mk (below_step HBE.out hb_)
     have BK13 := Aside0.mk hbox
     have GE13 : Aside0 (w.heap.size ≤ g13_) := ⟨by rw [hg_]; exact HBE.out.size⟩
     have NE := Aside0.mk (show g12_ ≠ g13_ from by rw [hg_]; exact Nat.ne_of_lt (blk_lt BK12.out))
     replace BK12 := Aside0.mk (blk_below BK12.out hb_)
     clear hb_ hbox hg_
     refine hK.out _ _ ⟨HS0_, HS1_, HS2_, HS3_, HS4_, HS5_⟩ (fun hHeld => ?_)
     clear hK K
     refine norm_ (a' := ?_) ?_ ?_
     rotate_left
     ·show Act.put _ (some 8) _ = _
      simp only [Act.put, sA, sB, sC, i64_w, i32_w]
      rfl
     exact norm_ (by simp only [putAll, Act.put, sA, sB, sC]) (hCont (g12_, g13_) _ ⟨hHeld, BK12.out, BK13.out, NE.out, GE12.out, GE13.out, HBF.out⟩)
    ·skip
     refine box_step ?hg (N := 8) ?hd (cs := #[.int .i64 0, .int .i64 0, .slice none 0 0]) (t := 84) ?hr ?_; (case hd => rfl); (case hg => rfl); (case hr => first | (go_simp; done) | (go_simp; rfl))
     intro g13_ hg_ w_13 hbox hb_
     have HS0_ := (hb_.cell (World.block_lt_of_cell? _ _ (hHeld.1))).trans (hHeld.1)
     have HS1_ := (hb_.cell (World.block_lt_of_cell? _ _ (hHeld.2.1))).trans (hHeld.2.1)
     have HS2_ := (hb_.cell (World.block_lt_of_cell? _ _ (hHeld.2.2.1))).trans (hHeld.2.2.1)
     have HS3_ := (hb_.cell (World.block_lt_of_cell? _ _ (hHeld.2.2.2.1))).trans (hHeld.2.2.2.1)
     have HS4_ := (hb_.cell (World.block_lt_of_cell? _ _ (hHeld.2.2.2.2.1))).trans (hHeld.2.2.2.2.1)
     have HS5_ := (hb_.cell (World.block_lt_of_cell? _ _ (hHeld.2.2.2.2.2))).trans (hHeld.2.2.2.2.2)
     have HBE := Aside0.mk (below_step HBD.out hb_)
     have BK13 := Aside0.mk hbox
     have GE13 : Aside0 (w.heap.size ≤ g13_) := ⟨by rw [hg_]; exact HBD.out.size⟩
     clear hb_ hbox hg_
     refine hK.out _ _ ⟨HS0_, HS1_, HS2_, HS3_, HS4_, HS5_⟩ (fun hHeld => ?_)
     clear hK K
     refine norm_ (a' := ?_) ?_ ?_
     rotate_left
     ·show Act.put _ (some 8) _ = _
      simp only [Act.put, sA, sB, sC, i64_w, i32_w]
      rfl
     refine one_ (i := 12) (N := some 7) (bm 16383 16) rfl rfl (one_of HT_.out (by kernel_rfl)) (by decide) (fun K hK => ?_)
     refine box_step ?hg (N := 7) ?hd (cs := #[.int .i64 0, .int .i64 0, .slice none 0 0]) (t := 84) ?hr ?_; (case hd => rfl); (case hg => rfl); (case hr => first | (go_simp; done) | (go_simp; rfl))
     intro g12_ hg_ w_12 hbox hb_
     have HS0_ := (hb_.cell (World.block_lt_of_cell? _ _ (hHeld.1))).trans (hHeld.1)
     have HS1_ := (hb_.cell (World.block_lt_of_cell? _ _ (hHeld.2.1))).trans (hHeld.2.1)
     have HS2_ := (hb_.cell (World.block_lt_of_cell? _ _ (hHeld.2.2.1))).trans (hHeld.2.2.1)
     have HS3_ := (hb_.cell (World.block_lt_of_cell? _ _ (hHeld.2.2.2.1))).trans (hHeld.2.2.2.1)
     have HS4_ := (hb_.cell (World.block_lt_of_cell? _ _ (hHeld.2.2.2.2.1))).trans (hHeld.2.2.2.2.1)
     have HS5_ := (hb_.cell (World.block_lt_of_cell? _ _ (hHeld.2.2.2.2.2))).trans (hHeld.2.2.2.2.2)
     have HBF := Aside0.mk (below_step HBE.out hb_)
     have BK12 := Aside0.mk hbox
     have GE12 : Aside0 (w.heap.size ≤ g12_) := ⟨by rw [hg_]; exact HBE.out.size⟩
     have NE := Aside0.mk (show g13_ ≠ g12_ from by rw [hg_]; exact Nat.ne_of_lt (blk_lt BK13.out))
     replace BK13 := Aside0.mk (blk_below BK13.out hb_)
     clear hb_ hbox hg_
     refine hK.out _ _ ⟨HS0_, HS1_, HS2_, HS3_, HS4_, HS5_⟩ (fun hHeld => ?_)
     clear hK K
     refine norm_ (a' := ?_) ?_ ?_
     rotate_left
     ·show Act.put _ (some 7) _ = _
      simp only [Act.put, sA, sB, sC, i64_w, i32_w]
      rfl
     exact norm_ (by simp only [putAll, Act.put, sA, sB, sC]) (hCont (g12_, g13_) _ ⟨hHeld, BK12.out, BK13.out, (Ne.symm NE.out), GE12.out, GE13.out, HBF.out⟩)
   rintro ⟨g1, g2⟩ w5 ⟨hS_, hk1_, hk2_, hne_, hge1_, hge2_, hb_⟩
   have HK1 : Aside0 (w5.heap[g1]? = some (.cells #[.int .i64 0, .int .i64 0, .slice none 0 0] 84 (0, 0))) := ⟨hk1_⟩
   have HK2 : Aside0 (w5.heap[g2]? = some (.cells #[.int .i64 0, .int .i64 0, .slice none 0 0] 84 (0, 0))) := ⟨hk2_⟩
   have HNE : Aside0 (g1 ≠ g2) := ⟨hne_⟩
   have HG1 : Aside0 (w.heap.size ≤ g1) := ⟨hge1_⟩
   have HG2 : Aside0 (w.heap.size ≤ g2) := ⟨hge2_⟩
   have HB5 : Aside0 (Below w.heap.size w w5) := ⟨hb_⟩
   have hHeld : w5.cell? (ad.add (n * 3)) = some (.int .i64 x.f0) ∧ w5.cell? ⟨(ad.add (n * 3)).block, (ad.add (n * 3)).off + 1, none⟩ = some (.int .i64 x.f1) ∧ w5.cell? ⟨(ad.add (n * 3)).block, (ad.add (n * 3)).off + 2, none⟩ = some (.slice A2 x.f2.length c2) ∧ w5.cell? (bd.add (m * 3)) = some (.int .i64 y.f0) ∧ w5.cell? ⟨(bd.add (m * 3)).block, (bd.add (m * 3)).off + 1, none⟩ = some (.int .i64 y.f1) ∧ w5.cell? ⟨(bd.add (m * 3)).block, (bd.add (m * 3)).off + 2, none⟩ = some (.slice B2 y.f2.length m2) := hS_
   clear hS_ hk1_ hk2_ hne_ hge1_ hge2_ hb_ HBD
   refine norm_ (a' := ?_) ?_ ?_
   rotate_left
   ·simp only [putAll, Act.put, sA, sB, sC]
    rfl
   refine one_ (i := 14) (N := none) (bm 32767 16) rfl rfl (one_of HT_.out (by kernel_rfl)) (by decide) (fun K hK => ?_)
   have hs0 : w5.cell? ⟨g1, 0, none⟩ = some (.int .i64 0) := (blk_cell HK1.out 0).trans rfl
   have hs1 : w5.cell? ⟨g1, 1, none⟩ = some (.int .i64 0) := (blk_cell HK1.out 1).trans rfl
   have hs2 : w5.cell? ⟨g1, 2, none⟩ = some (.slice none 0 0) := (blk_cell HK1.out 2).trans rfl
   have hf0 := blk_frozen HK1.out 0
   have hf1 := blk_frozen HK1.out 1
   have hf2 := blk_frozen HK1.out 2
   refine skip_ (w1 := ?_) (by rfl) rfl ?_ ?_
   rotate_left
   ·go_simp
    rfl
   clear hs0 hs1 hs2 hf0 hf1 hf2
   refine hK.out _ _ ⟨far3 hHeld.1 (World.block_lt_of_cell? w _ hx0) HG1.out _ _ _, far3 hHeld.2.1 (World.block_lt_of_cell? w _ hx1) HG1.out _ _ _, far3 hHeld.2.2.1 (World.block_lt_of_cell? w _ hx2) HG1.out _ _ _, far3 hHeld.2.2.2.1 (World.block_lt_of_cell? w _ hy0) HG1.out _ _ _, far3 hHeld.2.2.2.2.1 (World.block_lt_of_cell? w _ hy1) HG1.out _ _ _, far3 hHeld.2.2.2.2.2 (World.block_lt_of_cell? w _ hy2) HG1.out _ _ _⟩ (fun hHeld => ?_)
   clear hK K
   refine last_ (i := 15) (N := none) (bm 65535 16) rfl rfl (one_of HT_.out (by kernel_rfl)) (by decide) (fun K hK => ?_)
   have hne := HNE.out
   have hne' := Ne.symm HNE.out
   have hs0 : w5.cell? ⟨g2, 0, none⟩ = some (.int .i64 0) := (blk_cell HK2.out 0).trans rfl
   have hs1 : w5.cell? ⟨g2, 1, none⟩ = some (.int .i64 0) := (blk_cell HK2.out 1).trans rfl
   have hs2 : w5.cell? ⟨g2, 2, none⟩ = some (.slice none 0 0) := (blk_cell HK2.out 2).trans rfl
   have hf0 := blk_frozen HK2.out 0
   have hf1 := blk_frozen HK2.out 1
   have hf2 := blk_frozen HK2.out 2
   refine skip_ (w1 := ?_) (by rfl) rfl ?_ ?_
   rotate_left
   ·go_simp
    rfl
   clear hs0 hs1 hs2 hf0 hf1 hf2
   refine hK.out _ _ ?_
   clear hK K
   refine done_ (done_of HT_.out (by kernel_rfl)) ?_
   clear wn wm pn pm qn qm
   go_upto_region 5 with (fail)
   obtain ⟨w6, hw6⟩ : ∃ w', w' = (((((w5.setCell ⟨g1, 0, none⟩ (.int .i64 x.f0)).setCell ⟨g1, 1, none⟩ (.int .i64 x.f1)).setCell ⟨g1, 2, none⟩ (.slice A2 x.f2.length c2)).setCell ⟨g2, 0, none⟩ (.int .i64 y.f0)).setCell ⟨g2, 1, none⟩ (.int .i64 y.f1)).setCell ⟨g2, 2, none⟩ (.slice B2 y.f2.length m2) := ⟨_, rfl⟩
   have HB6 : Aside0 (Below w.heap.size w w6) := ⟨by rw [hw6]; exact below_set (below_set (below_set (below_set (below_set (below_set HB5.out HG1.out) HG1.out) HG1.out) HG2.out) HG2.out) HG2.out⟩
   have hk := two_boxes HK1.out HK2.out HNE.out (.int .i64 x.f0) (.int .i64 x.f1) (.slice A2 x.f2.length c2) (.int .i64 y.f0) (.int .i64 y.f1) (.slice B2 y.f2.length m2)
   rw [← hw6] at hk ⊢
   have hp2 : w6.cell? ⟨g1, 2, none⟩ = some (.slice A2 x.f2.length c2) := (blk_cell hk.1 2).trans rfl
   have hq2 : w6.cell? ⟨g2, 2, none⟩ = some (.slice B2 y.f2.length m2) := (blk_cell hk.2 2).trans rfl
   clear hk hw6 HK1 HK2 HNE HG1 HG2 HB5 hx0 hx1 hx2 hy0 hy1 hy2
   go_upto_region 6 with (first
    | (go_at_call 67; (with_reducible refine (attr_Change.calls A2 c2 x.f2 B2 m2 y.f2 ch w6 (Kd.C_below HGX.out HB6.out) HLX.out (Kd.C_below HGY.out HB6.out) HLY.out HCH.out).mono ?_); rintro e7 w7 ⟨v7, rfl, hR, hb⟩; obtain ⟨A7, n7, rfl⟩ := Kd.R_slice hR; have HR7 := Aside0.mk hR; have HB7 := Aside0.mk (below_step HB6.out hb); clear hR hb hp2 hq2)
    | ((with_reducible refine gate_dst (N := 62) rfl ?_); refine Kd.N_lit k70 (w0 := w) w.heap.size 70 ?hg (N' := 62) ?hd (xs := [(⟨0, 1, ch, []⟩ : S70)]) (inner := [.int .i64 0, .int .i64 1, .slice A7 ch.length n7, .slice none 0 0]) (ok := fun _ => True) (okp := fun _ => True) ?hr ?hp (fun _ _ => trivial) trivial HB7.out HB7.out.size (by simp) ?_; (case hd => rfl); (case hg => rfl); (case hr => first | (go_simp; done) | (go_simp; rfl)); (case hp => exact Reps.c4 (k70_mkF _ _ (⟨0, 1, ch, []⟩ : S70) (Kd.R_reads' HR7.out).2.1 (Kd.R_F HR7.out) (Nat.le_refl _) (Kd.F_nil _ _ _)) (Reps.none _ _)); intro v8 w8 hN hb _ _; have HN8 := Aside0.mk hN; have HB8 := Aside0.mk hb; clear hN hb))
   obtain ⟨i084, hi084, _, _, _⟩ := info_parts info84
   have hcx : ∀ W : World, (Instr.slice 63 (.slice (some ad) (n + 1) c0) none (some (.int .i64 (n : Int))) none).run Try.prog W = .ok (.slice (some ad) n c0) W := fun W => cut_to (P := Try.prog) 63 84 .i64 Try.underlying63 hi084 (some ad) (n + 1) c0 (n : Int) (by omega) (by omega) (by have := HC0.out; have := HN0.out; omega) W
   have hcy : ∀ W : World, (Instr.slice 63 (.slice (some bd) (m + 1) c1) none (some (.int .i64 (m : Int))) none).run Try.prog W = .ok (.slice (some bd) m c1) W := fun W => cut_to (P := Try.prog) 63 84 .i64 Try.underlying63 hi084 (some bd) (m + 1) c1 (m : Int) (by omega) (by omega) (by have := HC1.out; have := HN1.out; omega) W
   clear hi084
   have wn : wrap64 (n : Int) = (n : Int) := w64 (by omega) (by omega)
   have wm : wrap64 (m : Int) = (m : Int) := w64 (by omega) (by omega)
   refine start_ (n := 12) (S := fun w' => True) (ds := []) #[false, false, false, false, false, false, false, false, false, false, false, false] (by kernel_rfl) rfl rfl trivial (fun hHeld => ?_)
   refine with_tabW raw100.tab6 raw100.bits6 (fun HT_ HW_ => ?_)
   refine pure_ (i := 0) (N := some 63) (v := ?_) (a' := ?_) (bm 1 12) rfl rfl (any_of HT_.out (by kernel_rfl)) (fun _ _ _ h => h) (Or.inl ⟨by rfl, ?_⟩) ?_ ?_
   rotate_left
   ·intro w'
    go_simp
    with_reducible rfl
   rotate_left
   ·simp only [Act.put, sA, sB, sC, i64_w, i32_w]
    rfl
   refine pure_ (i := 1) (N := some 64) (v := ?_) (a' := ?_) (bm 3 12) rfl rfl (any_of HT_.out (by kernel_rfl)) (fun _ _ _ h => h) (Or.inl ⟨by rfl, ?_⟩) ?_ ?_
   rotate_left
   ·intro w'
    go_simp
    with_reducible rfl
   rotate_left
   ·simp only [Act.put, sA, sB, sC, i64_w, i32_w]
    rfl
   refine pure_ (i := 2) (N := some 65) (v := ?_) (a' := ?_) (bm 7 12) rfl rfl (any_of HT_.out (by kernel_rfl)) (fun _ _ _ h => h) (Or.inl ⟨by rfl, ?_⟩) ?_ ?_
   rotate_left
   ·intro w'
    go_simp
    with_reducible rfl
   rotate_left
   ·simp only [Act.put, sA, sB, sC, i64_w, i32_w]
    rfl
   refine pure_ (i := 3) (N := some 66) (v := ?_) (a' := ?_) (bm 15 12) rfl rfl (any_of HT_.out (by kernel_rfl)) (fun _ _ _ h => h) (Or.inl ⟨by rfl, ?_⟩) ?_ ?_
   rotate_left
   ·intro w'
    go_simp
    with_reducible rfl
   rotate_left
   ·simp only [Act.put, sA, sB, sC, i64_w, i32_w]
    rfl
   refine pure_ (i := 4) (N := some 67) (v := ?_) (a' := ?_) (bm 31 12) rfl rfl (any_of HT_.out (by kernel_rfl)) (fun _ _ _ h => h) (Or.inl ⟨by rfl, ?_⟩) ?_ ?_
   rotate_left
   ·intro w'
    go_simp
    with_reducible rfl
   rotate_left
   ·simp only [Act.put, sA, sB, sC, i64_w, i32_w]
    rfl
   refine pure_ (i := 5) (N := some 68) (v := ?_) (a' := ?_) (bm 63 12) rfl rfl (any_of HT_.out (by kernel_rfl)) (fun _ _ _ h => h) (Or.inl ⟨by rfl, ?_⟩) ?_ ?_
   rotate_left
   ·intro w'
    go_simp
    with_reducible rfl
   rotate_left
   ·simp only [Act.put, sA, sB, sC, i64_w, i32_w]
    rfl
   refine pure_ (i := 6) (N := some 69) (v := ?_) (a' := ?_) (bm 127 12) rfl rfl (any_of HT_.out (by kernel_rfl)) (fun _ _ _ h => h) (Or.inl ⟨by rfl, ?_⟩) ?_ ?_
   rotate_left
   ·intro w'
    go_simp
    with_reducible rfl
   rotate_left
   ·simp only [Act.put, sA, sB, sC, i64_w, i32_w]
    rfl
   refine pure_ (i := 7) (N := some 70) (v := ?_) (a' := ?_) (bm 255 12) rfl rfl (any_of HT_.out (by kernel_rfl)) (fun _ _ _ h => h) (Or.inl ⟨by rfl, ?_⟩) ?_ ?_
   rotate_left
   ·intro w'
    go_simp
    with_reducible rfl
   rotate_left
   ·simp only [Act.put, sA, sB, sC, i64_w, i32_w]
    rfl
   refine pure_ (i := 8) (N := some 71) (v := ?_) (a' := ?_) (bm 511 12) rfl rfl (any_of HT_.out (by kernel_rfl)) (fun _ _ _ h => h) (Or.inl ⟨by rfl, ?_⟩) ?_ ?_
   rotate_left
   ·intro w'
    go_simp
    with_reducible rfl
   rotate_left
   ·simp only [Act.put, sA, sB, sC, i64_w, i32_w]
    rfl
   refine pure_ (i := 9) (N := some 72) (v := ?_) (a' := ?_) (bm 1023 12) rfl rfl (any_of HT_.out (by kernel_rfl)) (fun _ _ _ h => h) (Or.inl ⟨by rfl, ?_⟩) ?_ ?_
   rotate_left
   ·intro w'
    go_simp
    with_reducible rfl
   rotate_left
   ·simp only [Act.put, sA, sB, sC, i64_w, i32_w]
    rfl
   refine pure_ (i := 10) (N := some 0) (v := ?_) (a' := ?_) (bm 2047 12) rfl rfl (any_of HT_.out (by kernel_rfl)) (fun _ _ _ h => h) (Or.inl ⟨by rfl, ?_⟩) ?_ ?_
   rotate_left
   ·intro w'
    go_simp
    with_reducible rfl
   rotate_left
   ·simp only [Act.put, sA, sB, sC, i64_w, i32_w]
    rfl
   refine pure_ (i := 11) (N := some 1) (v := ?_) (a' := ?_) (bm 4095 12) rfl rfl (any_of HT_.out (by kernel_rfl)) (fun _ _ _ h => h) (Or.inl ⟨by rfl, ?_⟩) ?_ ?_
   rotate_left
   ·intro w'
    go_simp
    with_reducible rfl
   rotate_left
   ·simp only [Act.put, sA, sB, sC, i64_w, i32_w]
    rfl
   refine done_ (done_of HT_.out (by kernel_rfl)) ?_
   clear wn wm hcx hcy
   go_wp2
   go_meet
   case rel =>
    have hla := HLA.out
    have hlb := HLB.out
    have hta := HTA.out
    have htb := HTB.out
    have h0 := HC0.out
    have h1 := HC1.out
    exact ⟨some ad, a.take (a.length - 1), some bd, b.take (b.length - 1), [⟨0, 1, ch, []⟩], by rw [HTA.out], by rw [HTB.out], ⟨Kd.C_take (Kd.C_below HR0.out (below_drew1 HB8.out)) (by omega), by rw [List.length_take]; omega, by rw [List.length_take]; omega⟩, ⟨Kd.C_take (Kd.C_below HR1.out (below_drew1 HB8.out)) (by omega), by rw [List.length_take]; omega, by rw [List.length_take]; omega⟩, ⟨Kd.N_drew HN8.out, Nat.le_refl _⟩, HF2, ⟨below_drew1 HB8.out⟩⟩
 case rest =>
 obtain ⟨A2, a2, B2, b2, last, rfl, rfl, HA, HB, HL, HRC, HB1⟩ := hcut
 clear HTB0 HR0 HR1 HC0 HC1 HLA HLB HF HN0 HN1
 obtain ⟨A6, n6, e6⟩ := Kd.N_slice HL.out.1
 subst e6
 obtain ⟨t, ht, hrest⟩ := Option.bind_eq_some_iff.1 HRC.out
 obtain ⟨o, ho, hrest⟩ := Option.bind_eq_some_iff.1 hrest
 obtain ⟨r, hr, hrest⟩ := Option.bind_eq_some_iff.1 hrest
 injection hrest with hrest
 subst hrest
 have HT := Aside0.mk ht
 have HO := Aside0.mk ho
 have HR := Aside0.mk hr
 clear ht ho hr HRC
 go_upto_region 8 with (go_at_call 115; (with_reducible refine (diff_table.calls k A2 c0 a2 B2 c1 b2 t wc HA.out.1 HA.out.2.1 HB.out.1 HB.out.2.1 HT.out).mono ?_); rintro e3 w3 ⟨v3, rfl, hS, hb⟩; obtain ⟨A3, n3, e4⟩ := Kd.N_slice (Kd.S_N hS); subst e4; have HT3 := Aside0.mk (Kd.N_reads' (Kd.S_N hS)).2.2; have HA3 := Aside0.mk (And.intro (Kd.C_below HA.out.1 hb) HA.out.2); have HB3 := Aside0.mk (And.intro (Kd.C_below HB.out.1 hb) HB.out.2); have HL3 := Aside0.mk (And.intro (Kd.N_reads' (Kd.N_below HL.out.1 hb)) HL.out.2); have HB2 := Aside0.mk (below_step HB1.out hb); clear hS hb)
 clear HA HB HL HB1 HT
 have HN0 : Aside0 (Kd.N k70 70 w3 w3.heap.size (fun _ => True) (.slice none 0 0) ([] : List S70)) := ⟨Kd.N_nil _ _ _ _ _⟩
 have HBW : Aside0 (Below w3.heap.size w3 w3) := ⟨Below.refl _ _⟩
 have HI0 : Aside0 (0 ≤ a2.length ∧ 0 ≤ b2.length ∧ ([] : List S70).length + (a2.length + b2.length + 1) ≤ 4194304) := ⟨⟨Nat.zero_le _, Nat.zero_le _, by have := HA3.out.2.2; have := HB3.out.2.2; simp only [List.length_nil]; omega⟩⟩
 go_wp2
 go_loopg [10, 11, 12] (a2.length + b2.length + 1) (fun m v10 v11 v12 wr => ∃ (i j : Nat) (out : List S70), v11 = .int .i64 (i : Int) ∧ v12 = .int .i64 (j : Int) ∧ Aside0 (i ≤ a2.length ∧ j ≤ b2.length ∧ out.length + m ≤ 4194304) ∧ Aside0 (Kd.N k70 70 wr w3.heap.size (fun _ => True) v10 out) ∧ Aside0 (Below w3.heap.size w3 wr) ∧ Aside0 (rawL k a2 b2 t m i j out = some o))
 case atStart => exact ⟨0, 0, [], rfl, rfl, HI0, HN0, HBW, HO⟩
 case round =>
  clear HI0 HN0 HBW HO
  obtain ⟨i, j, out, rfl, rfl, HI, HN, HBR, HLL⟩ := hrel
  obtain ⟨A10, n10, e10⟩ := Kd.N_slice HN.out
  subst e10
  cases gk with
  | zero => exact absurd HLL.out (by rw [rawL]; simp)
  | succ gl =>
  have hL := HLL.out
  rw [rawL] at hL
  clear HLL
  by_cases c0 : i < a2.length ∨ j < b2.length
  rotate_left
  ·rw [if_neg c0] at hL
   injection hL with hL
   subst hL
   have g1 : decide ((i : Int) < (a2.length : Int)) = false := decide_eq_false (by omega)
   have g1' : decide (i < a2.length) = false := decide_eq_false (by omega)
   have g2 : decide ((j : Int) < (b2.length : Int)) = false := decide_eq_false (by omega)
   have g2' : decide (j < b2.length) = false := decide_eq_false (by omega)
   clear c0
   obtain ⟨ol, hol⟩ : ∃ l, l = out ++ last := ⟨_, rfl⟩
   rw [← hol] at HR
   have HOL := Aside0.mk hol
   clear hol
   go_wp2_with (first
    | ((with_reducible refine gate_builtin (b := .append) (xs := #[.tmp 204, .tmp 205]) rfl ?_); at_builtin; refine Kd.N_append_rows k70 (w0 := w3) w3.heap.size rfl (.tmp 204) (.tmp 205) 64 70 (.agg #[.int .i64 0, .int .i64 0, .slice none 0 0, .slice none 0 0]) 64 rfl Try.underlying64 info70 rfl (by decide) (by decide) (.slice A10 out.length n10) out last A6 last.length n6 (fun _ => True) (fun k => some k ≠ (Value.slice A10 out.length n10).ownBlock) (by rfl) (by rfl) HN.out ?aF (fun _ hk => ⟨trivial, hk⟩) (fun _ _ => trivial) HBR.out HBR.out.size ?al ?_; (case aF => exact old_F k70_heap HL3.out.1.2.2 HN.out HBR.out); (case al => have := HL3.out.2; have := HI.out.2.2; omega); intro v4 w4 hN4 hb4 _ _; rw [← HOL.out] at hN4; obtain ⟨A4, n4, h4⟩ := Kd.N_slice hN4; subst h4; have HN4 := Aside0.mk (Kd.N_reads' hN4); have HB4 := Aside0.mk hb4; clear hN4 hb4)
    | (go_at_call 44; (with_reducible refine (tidy_calls k A4 n4 ol r.1 r.2 w4 HN4.out.2.2 HN4.out.2.1 HR.out).mono ?_); rintro e5 w5 ⟨v5, rfl, hR5, hb5⟩; have HR5 := Aside0.mk hR5; have HB5 := Aside0.mk hb5; clear hR5 hb5))
   go_ret
   exact ⟨_, rfl, Kd.N_lower HR5.out (Nat.le_trans HB2.out.size HB4.out.size), below_step HB2.out (below_step HB4.out HB5.out)⟩
  rw [if_pos c0] at hL
  have HC := Aside0.mk c0
  clear c0
  obtain ⟨x, hx⟩ : ∃ x, x = rd_T84 a2 (i : Int) := ⟨_, rfl⟩
  obtain ⟨y, hy⟩ : ∃ y, y = rd_T84 b2 (j : Int) := ⟨_, rfl⟩
  rw [← hx, ← hy] at hL
  have HX := Aside0.mk hx
  have HY := Aside0.mk hy
  clear hx hy
  obtain ⟨q, hq, hL⟩ := Option.bind_eq_some_iff.1 hL
  have HQ := Aside0.mk hq
  have HLQ := Aside0.mk hL
  clear hq hL
  go_upto_region 10 with (fail)
  go_cut [85] (fun v85 wx => v85 = .bool true ∧ wx = wr)
  case first =>
   as_aux_lemma =>
    by_cases ci : i < a2.length
    ·have g1 : decide ((i : Int) < (a2.length : Int)) = true := decide_eq_true (by omega)
     have g1' : decide (i < a2.length) = true := decide_eq_true ci
     clear ci
     go_wp2
     go_meet
     case rel => exact ⟨rfl, rfl⟩
    ·have g1 : decide ((i : Int) < (a2.length : Int)) = false := decide_eq_false (by omega)
     have g1' : decide (i < a2.length) = false := decide_eq_false ci
     have cj : j < b2.length := by have := HC.out; omega
     have g2 : decide ((j : Int) < (b2.length : Int)) = true := decide_eq_true (by omega)
     have g2' : decide (j < b2.length) = true := decide_eq_true cj
     clear ci cj
     go_wp2
     go_meet
     case rel => exact ⟨rfl, rfl⟩
  case rest =>
  obtain ⟨rfl, rfl⟩ := hcut
  have HCC := HC
  clear HC
  go_upto_region 13 with (fail)
  go_cut [97] (fun v97 wx => v97 = .bool q ∧ Aside0 (Kd.N k70 70 wx w3.heap.size (fun _ => True) (.slice A10 out.length n10) out) ∧ Aside0 (Below w3.heap.size w3 wx))
  case first =>
   as_aux_lemma =>
    have HBD := Aside0.mk (below_drew1 HBR.out)
    have HND := Aside0.mk (Kd.N_drew HN.out)
    have hq := HQ.out
    clear HBR HN HQ HLQ
    by_cases ci : i < a2.length
    rotate_left
    ·rw [if_neg (fun h => ci h.1)] at hq
     injection hq with hq
     subst hq
     have g1 : decide ((i : Int) < (a2.length : Int)) = false := decide_eq_false (by omega)
     have g1' : decide (i < a2.length) = false := decide_eq_false ci
     clear ci
     refine start_ (n := 51) (S := fun w' => True) (ds := []) #[false, false, false, false, false, false, false, false, false, false, false, false, false, false, false, false, false, false, false, false, false, false, false, false, false, false, false, false, false, false, false, false, false, false, false, false, false, false, false, false, false, false, false, false, false, false, false, false, false, false, false] (by kernel_rfl) rfl rfl trivial (fun hHeld => ?_)
     refine with_tabW raw100.tab13 raw100.bits13 (fun HT_ HW_ => ?_)
     refine pure_ (i := 0) (N := some 98) (v := ?_) (a' := ?_) (bm 1 51) rfl rfl (any_of HT_.out (by kernel_rfl)) (fun _ _ _ h => h) (Or.inl ⟨by rfl, ?_⟩) ?_ ?_
     rotate_left
     ·intro w'
      go_simp
      with_reducible rfl
     rotate_left
     ·simp only [Act.put, sA, sB, sC, i64_w, i32_w]
      rfl
     refine pure_ (i := 1) (N := some 99) (v := ?_) (a' := ?_) (bm 3 51) rfl rfl (any_of HT_.out (by kernel_rfl)) (fun _ _ _ h => h) (Or.inl ⟨by rfl, ?_⟩) ?_ ?_
     rotate_left
     ·intro w'
      go_simp
      with_reducible rfl
     rotate_left
     ·simp only [Act.put, sA, sB, sC, i64_w, i32_w]
      rfl
     refine pure_ (i := 2) (N := some 100) (v := ?_) (a' := ?_) (bm 7 51) rfl rfl (any_of HT_.out (by kernel_rfl)) (fun _ _ _ h => h) (Or.inl ⟨by rfl, ?_⟩) ?_ ?_
     rotate_left
     ·intro w'
      go_simp
      with_reducible rfl
     rotate_left
     ·simp only [Act.put, sA, sB, sC, i64_w, i32_w]
      rfl
     refine pure_ (i := 3) (N := some 101) (v := ?_) (a' := ?_) (bm 15 51) rfl rfl (any_of HT_.out (by kernel_rfl)) (fun _ _ _ h => h) (Or.inl ⟨by rfl, ?_⟩) ?_ ?_
     rotate_left
     ·intro w'
      go_simp
      with_reducible rfl
     rotate_left
     ·simp only [Act.put, sA, sB, sC, i64_w, i32_w]
      rfl
     refine pure_ (i := 4) (N := some 102) (v := ?_) (a' := ?_) (bm 31 51) rfl rfl (any_of HT_.out (by kernel_rfl)) (fun _ _ _ h => h) (Or.inl ⟨by rfl, ?_⟩) ?_ ?_
     rotate_left
     ·intro w'
      go_simp
      with_reducible rfl
     rotate_left
     ·simp only [Act.put, sA, sB, sC, i64_w, i32_w]
      rfl
     refine pure_ (i := 5) (N := some 103) (v := undef) (a' := ?_) (bm 63 51) rfl rfl (any_of HT_.out (by kernel_rfl)) (fun _ _ _ h => h) (Or.inr ⟨by rfl, rfl⟩) ?_ ?_
     rotate_left
     ·simp only [Act.put, sA, sB, sC, i64_w, i32_w]
      rfl
     refine pure_ (i := 6) (N := some 104) (v := undef) (a' := ?_) (bm 127 51) rfl rfl (any_of HT_.out (by kernel_rfl)) (fun _ _ _ h => h) (Or.inr ⟨by rfl, rfl⟩) ?_ ?_
     rotate_left
     ·simp only [Act.put, sA, sB, sC, i64_w, i32_w]
      rfl
     refine pure_ (i := 7) (N := some 105) (v := undef) (a' := ?_) (bm 255 51) rfl rfl (any_of HT_.out (by kernel_rfl)) (fun _ _ _ h => h) (Or.inr ⟨by rfl, rfl⟩) ?_ ?_
     rotate_left
     ·simp only [Act.put, sA, sB, sC, i64_w, i32_w]
      rfl
     refine pure_ (i := 8) (N := some 106) (v := undef) (a' := ?_) (bm 511 51) rfl rfl (any_of HT_.out (by kernel_rfl)) (fun _ _ _ h => h) (Or.inr ⟨by rfl, rfl⟩) ?_ ?_
     rotate_left
     ·simp only [Act.put, sA, sB, sC, i64_w, i32_w]
      rfl
     refine pure_ (i := 9) (N := some 107) (v := ?_) (a' := ?_) (bm 1023 51) rfl rfl (any_of HT_.out (by kernel_rfl)) (fun _ _ _ h => h) (Or.inl ⟨by rfl, ?_⟩) ?_ ?_
     rotate_left
     ·intro w'
      go_simp
      with_reducible rfl
     rotate_left
     ·simp only [Act.put, sA, sB, sC, i64_w, i32_w]
      rfl
     refine pure_ (i := 10) (N := some 108) (v := ?_) (a' := ?_) (bm 2047 51) rfl rfl (any_of HT_.out (by kernel_rfl)) (fun _ _ _ h => h) (Or.inl ⟨by rfl, ?_⟩) ?_ ?_
     rotate_left
     ·intro w'
      go_simp
      with_reducible rfl
     rotate_left
     ·simp only [Act.put, sA, sB, sC, i64_w, i32_w]
      rfl
     refine pure_ (i := 11) (N := some 109) (v := undef) (a' := ?_) (bm 4095 51) rfl rfl (any_of HT_.out (by kernel_rfl)) (fun _ _ _ h => h) (Or.inr ⟨by rfl, rfl⟩) ?_ ?_
     rotate_left
     ·simp only [Act.put, sA, sB, sC, i64_w, i32_w]
      rfl
     refine pure_ (i := 12) (N := some 110) (v := undef) (a' := ?_) (bm 8191 51) rfl rfl (any_of HT_.out (by kernel_rfl)) (fun _ _ _ h => h) (Or.inr ⟨by rfl, rfl⟩) ?_ ?_
     rotate_left
     ·simp only [Act.put, sA, sB, sC, i64_w, i32_w]
      rfl
     refine pure_ (i := 13) (N := some 111) (v := undef) (a' := ?_) (bm 16383 51) rfl rfl (any_of HT_.out (by kernel_rfl)) (fun _ _ _ h => h) (Or.inr ⟨by rfl, rfl⟩) ?_ ?_
     rotate_left
     ·simp only [Act.put, sA, sB, sC, i64_w, i32_w]
      rfl
     refine pure_ (i := 14) (N := some 112) (v := undef) (a' := ?_) (bm 32767 51) rfl rfl (any_of HT_.out (by kernel_rfl)) (fun _ _ _ h => h) (Or.inr ⟨by rfl, rfl⟩) ?_ ?_
     rotate_left
     ·simp only [Act.put, sA, sB, sC, i64_w, i32_w]
      rfl
     refine pure_ (i := 15) (N := some 113) (v := undef) (a' := ?_) (bm 65535 51) rfl rfl (any_of HT_.out (by kernel_rfl)) (fun _ _ _ h => h) (Or.inr ⟨by rfl, rfl⟩) ?_ ?_
     rotate_left
     ·simp only [Act.put, sA, sB, sC, i64_w, i32_w]
      rfl
     refine pure_ (i := 16) (N := some 114) (v := undef) (a' := ?_) (bm 131071 51) rfl rfl (any_of HT_.out (by kernel_rfl)) (fun _ _ _ h => h) (Or.inr ⟨by rfl, rfl⟩) ?_ ?_
     rotate_left
     ·simp only [Act.put, sA, sB, sC, i64_w, i32_w]
      rfl
     refine pure_ (i := 17) (N := some 115) (v := undef) (a' := ?_) (bm 262143 51) rfl rfl (any_of HT_.out (by kernel_rfl)) (fun _ _ _ h => h) (Or.inr ⟨by rfl, rfl⟩) ?_ ?_
     rotate_left
     ·simp only [Act.put, sA, sB, sC, i64_w, i32_w]
      rfl
     refine pure_ (i := 18) (N := some 116) (v := undef) (a' := ?_) (bm 524287 51) rfl rfl (any_of HT_.out (by kernel_rfl)) (fun _ _ _ h => h) (Or.inr ⟨by rfl, rfl⟩) ?_ ?_
     rotate_left
     ·simp only [Act.put, sA, sB, sC, i64_w, i32_w]
      rfl
     refine pure_ (i := 19) (N := some 117) (v := undef) (a' := ?_) (bm 1048575 51) rfl rfl (any_of HT_.out (by kernel_rfl)) (fun _ _ _ h => h) (Or.inr ⟨by rfl, rfl⟩) ?_ ?_
     rotate_left
     ·simp only [Act.put, sA, sB, sC, i64_w, i32_w]
      rfl
     refine pure_ (i := 20) (N := some 118) (v := ?_) (a' := ?_) (bm 2097151 51) rfl rfl (any_of HT_.out (by kernel_rfl)) (fun _ _ _ h => h) (Or.inl ⟨by rfl, ?_⟩) ?_ ?_
     rotate_left
     ·intro w'
      go_simp
      with_reducible rfl
     rotate_left
     ·simp only [Act.put, sA, sB, sC, i64_w, i32_w]
      rfl
     refine pure_ (i := 21) (N := some 119) (v := ?_) (a' := ?_) (bm 4194303 51) rfl rfl (any_of HT_.out (by kernel_rfl)) (fun _ _ _ h => h) (Or.inl ⟨by rfl, ?_⟩) ?_ ?_
     rotate_left
     ·intro w'
      go_simp
      with_reducible rfl
     rotate_left
     ·simp only [Act.put, sA, sB, sC, i64_w, i32_w]
      rfl
     refine pure_ (i := 22) (N := some 120) (v := undef) (a' := ?_) (bm 8388607 51) rfl rfl (any_of HT_.out (by kernel_rfl)) (fun _ _ _ h => h) (Or.inr ⟨by rfl, rfl⟩) ?_ ?_
     rotate_left
     ·simp only [Act.put, sA, sB, sC, i64_w, i32_w]
      rfl
     refine pure_ (i := 23) (N := some 121) (v := undef) (a' := ?_) (bm 16777215 51) rfl rfl (any_of HT_.out (by kernel_rfl)) (fun _ _ _ h => h) (Or.inr ⟨by rfl, rfl⟩) ?_ ?_
     rotate_left
     ·simp only [Act.put, sA, sB, sC, i64_w, i32_w]
      rfl
     refine pure_ (i := 24) (N := some 122) (v := undef) (a' := ?_) (bm 33554431 51) rfl rfl (any_of HT_.out (by kernel_rfl)) (fun _ _ _ h => h) (Or.inr ⟨by rfl, rfl⟩) ?_ ?_
     rotate_left
     ·simp only [Act.put, sA, sB, sC, i64_w, i32_w]
      rfl
     refine pure_ (i := 25) (N := some 123) (v := undef) (a' := ?_) (bm 67108863 51) rfl rfl (any_of HT_.out (by kernel_rfl)) (fun _ _ _ h => h) (Or.inr ⟨by rfl, rfl⟩) ?_ ?_
     rotate_left
     ·simp only [Act.put, sA, sB, sC, i64_w, i32_w]
      rfl
     refine pure_ (i := 26) (N := some 124) (v := undef) (a' := ?_) (bm 134217727 51) rfl rfl (any_of HT_.out (by kernel_rfl)) (fun _ _ _ h => h) (Or.inr ⟨by rfl, rfl⟩) ?_ ?_
     rotate_left
     ·simp only [Act.put, sA, sB, sC, i64_w, i32_w]
      rfl
     refine pure_ (i := 27) (N := some 125) (v := undef) (a' := ?_) (bm 268435455 51) rfl rfl (any_of HT_.out (by kernel_rfl)) (fun _ _ _ h => h) (Or.inr ⟨by rfl, rfl⟩) ?_ ?_
     rotate_left
     ·simp only [Act.put, sA, sB, sC, i64_w, i32_w]
      rfl
     refine pure_ (i := 28) (N := some 126) (v := undef) (a' := ?_) (bm 536870911 51) rfl rfl (any_of HT_.out (by kernel_rfl)) (fun _ _ _ h => h) (Or.inr ⟨by rfl, rfl⟩) ?_ ?_
     rotate_left
     ·simp only [Act.put, sA, sB, sC, i64_w, i32_w]
      rfl
     refine pure_ (i := 29) (N := some 127) (v := undef) (a' := ?_) (bm 1073741823 51) rfl rfl (any_of HT_.out (by kernel_rfl)) (fun _ _ _ h => h) (Or.inr ⟨by rfl, rfl⟩) ?_ ?_
     rotate_left
     ·simp only [Act.put, sA, sB, sC, i64_w, i32_w]
      rfl
     refine pure_ (i := 30) (N := some 128) (v := undef) (a' := ?_) (bm 2147483647 51) rfl rfl (any_of HT_.out (by kernel_rfl)) (fun _ _ _ h => h) (Or.inr ⟨by rfl, rfl⟩) ?_ ?_
     rotate_left
     ·simp only [Act.put, sA, sB, sC, i64_w, i32_w]
      rfl
     refine pure_ (i := 31) (N := some 129) (v := undef) (a' := ?_) (bm 4294967295 51) rfl rfl (any_of HT_.out (by kernel_rfl)) (fun _ _ _ h => h) (Or.inr ⟨by rfl, rfl⟩) ?_ ?_
     rotate_left
     ·simp only [Act.put, sA, sB, sC, i64_w, i32_w]
      rfl
     refine pure_ (i := 32) (N := some 130) (v := undef) (a' := ?_) (bm 8589934591 51) rfl rfl (any_of HT_.out (by kernel_rfl)) (fun _ _ _ h => h) (Or.inr ⟨by rfl, rfl⟩) ?_ ?_
     rotate_left
     ·simp only [Act.put, sA, sB, sC, i64_w, i32_w]
      rfl
     refine pure_ (i := 33) (N := some 131) (v := undef) (a' := ?_) (bm 17179869183 51) rfl rfl (any_of HT_.out (by kernel_rfl)) (fun _ _ _ h => h) (Or.inr ⟨by rfl, rfl⟩) ?_ ?_
     rotate_left
     ·simp only [Act.put, sA, sB, sC, i64_w, i32_w]
      rfl
     refine pure_ (i := 34) (N := some 132) (v := undef) (a' := ?_) (bm 34359738367 51) rfl rfl (any_of HT_.out (by kernel_rfl)) (fun _ _ _ h => h) (Or.inr ⟨by rfl, rfl⟩) ?_ ?_
     rotate_left
     ·simp only [Act.put, sA, sB, sC, i64_w, i32_w]
      rfl
     refine pure_ (i := 35) (N := some 133) (v := undef) (a' := ?_) (bm 68719476735 51) rfl rfl (any_of HT_.out (by kernel_rfl)) (fun _ _ _ h => h) (Or.inr ⟨by rfl, rfl⟩) ?_ ?_
     rotate_left
     ·simp only [Act.put, sA, sB, sC, i64_w, i32_w]
      rfl
     refine pure_ (i := 36) (N := some 134) (v := undef) (a' := ?_) (bm 137438953471 51) rfl rfl (any_of HT_.out (by kernel_rfl)) (fun _ _ _ h => h) (Or.inr ⟨by rfl, rfl⟩) ?_ ?_
     rotate_left
     ·simp only [Act.put, sA, sB, sC, i64_w, i32_w]
      rfl
     refine pure_ (i := 37) (N := some 135) (v := undef) (a' := ?_) (bm 274877906943 51) rfl rfl (any_of HT_.out (by kernel_rfl)) (fun _ _ _ h => h) (Or.inr ⟨by rfl, rfl⟩) ?_ ?_
     rotate_left
     ·simp only [Act.put, sA, sB, sC, i64_w, i32_w]
      rfl
     refine pure_ (i := 38) (N := some 136) (v := undef) (a' := ?_) (bm 549755813887 51) rfl rfl (any_of HT_.out (by kernel_rfl)) (fun _ _ _ h => h) (Or.inr ⟨by rfl, rfl⟩) ?_ ?_
     rotate_left
     ·simp only [Act.put, sA, sB, sC, i64_w, i32_w]
      rfl
     refine pure_ (i := 39) (N := some 137) (v := undef) (a' := ?_) (bm 1099511627775 51) rfl rfl (any_of HT_.out (by kernel_rfl)) (fun _ _ _ h => h) (Or.inr ⟨by rfl, rfl⟩) ?_ ?_
     rotate_left
     ·simp only [Act.put, sA, sB, sC, i64_w, i32_w]
      rfl
     refine pure_ (i := 40) (N := some 138) (v := undef) (a' := ?_) (bm 2199023255551 51) rfl rfl (any_of HT_.out (by kernel_rfl)) (fun _ _ _ h => h) (Or.inr ⟨by rfl, rfl⟩) ?_ ?_
     rotate_left
     ·simp only [Act.put, sA, sB, sC, i64_w, i32_w]
      rfl
     refine pure_ (i := 41) (N := some 139) (v := undef) (a' := ?_) (bm 4398046511103 51) rfl rfl (any_of HT_.out (by kernel_rfl)) (fun _ _ _ h => h) (Or.inr ⟨by rfl, rfl⟩) ?_ ?_
     rotate_left
     ·simp only [Act.put, sA, sB, sC, i64_w, i32_w]
      rfl
     refine pure_ (i := 42) (N := some 140) (v := undef) (a' := ?_) (bm 8796093022207 51) rfl rfl (any_of HT_.out (by kernel_rfl)) (fun _ _ _ h => h) (Or.inr ⟨by rfl, rfl⟩) ?_ ?_
     rotate_left
     ·simp only [Act.put, sA, sB, sC, i64_w, i32_w]
      rfl
     refine pure_ (i := 43) (N := some 141) (v := undef) (a' := ?_) (bm 17592186044415 51) rfl rfl (any_of HT_.out (by kernel_rfl)) (fun _ _ _ h => h) (Or.inr ⟨by rfl, rfl⟩) ?_ ?_
     rotate_left
     ·simp only [Act.put, sA, sB, sC, i64_w, i32_w]
      rfl
     refine pure_ (i := 44) (N := some 142) (v := undef) (a' := ?_) (bm 35184372088831 51) rfl rfl (any_of HT_.out (by kernel_rfl)) (fun _ _ _ h => h) (Or.inr ⟨by rfl, rfl⟩) ?_ ?_
     rotate_left
     ·simp only [Act.put, sA, sB, sC, i64_w, i32_w]
      rfl
     refine pure_ (i := 45) (N := some 143) (v := undef) (a' := ?_) (bm 70368744177663 51) rfl rfl (any_of HT_.out (by kernel_rfl)) (fun _ _ _ h => h) (Or.inr ⟨by rfl, rfl⟩) ?_ ?_
     rotate_left
     ·simp only [Act.put, sA, sB, sC, i64_w, i32_w]
      rfl
     refine pure_ (i := 46) (N := some 144) (v := undef) (a' := ?_) (bm 140737488355327 51) rfl rfl (any_of HT_.out (by kernel_rfl)) (fun _ _ _ h => h) (Or.inr ⟨by rfl, rfl⟩) ?_ ?_
     rotate_left
     ·simp only [Act.put, sA, sB, sC, i64_w, i32_w]
      rfl
     refine pure_ (i := 47) (N := some 145) (v := undef) (a' := ?_) (bm 281474976710655 51) rfl rfl (any_of HT_.out (by kernel_rfl)) (fun _ _ _ h => h) (Or.inr ⟨by rfl, rfl⟩) ?_ ?_
     rotate_left
     ·simp only [Act.put, sA, sB, sC, i64_w, i32_w]
      rfl
     refine pure_ (i := 48) (N := some 146) (v := undef) (a' := ?_) (bm 562949953421311 51) rfl rfl (any_of HT_.out (by kernel_rfl)) (fun _ _ _ h => h) (Or.inr ⟨by rfl, rfl⟩) ?_ ?_
     rotate_left
     ·simp only [Act.put, sA, sB, sC, i64_w, i32_w]
      rfl
     refine pure_ (i := 49) (N := some 147) (v := ?_) (a' := ?_) (bm 1125899906842623 51) rfl rfl (any_of HT_.out (by kernel_rfl)) (fun _ _ _ h => h) (Or.inl ⟨by rfl, ?_⟩) ?_ ?_
     rotate_left
     ·intro w'
      go_simp
      with_reducible rfl
     rotate_left
     ·simp only [Act.put, sA, sB, sC, i64_w, i32_w]
      rfl
     refine pure_ (i := 50) (N := some 97) (v := ?_) (a' := ?_) (bm 2251799813685247 51) rfl rfl (any_of HT_.out (by kernel_rfl)) (fun _ _ _ h => h) (Or.inl ⟨by rfl, ?_⟩) ?_ ?_
     rotate_left
     ·intro w'
      go_simp
      with_reducible rfl
     rotate_left
     ·simp only [Act.put, sA, sB, sC, i64_w, i32_w]
      rfl
     refine done_ (done_of HT_.out (by kernel_rfl)) ?_
     go_wp2
     go_meet
     case rel => exact ⟨rfl, HND, HBD⟩
    by_cases cj : j < b2.length
    rotate_left
    ·rw [if_neg (fun h => cj h.2.1)] at hq
     injection hq with hq
     subst hq
     have g1 : decide ((i : Int) < (a2.length : Int)) = true := decide_eq_true (by omega)
     have g1' : decide (i < a2.length) = true := decide_eq_true ci
     have g2 : decide ((j : Int) < (b2.length : Int)) = false := decide_eq_false (by omega)
     have g2' : decide (j < b2.length) = false := decide_eq_false cj
     clear ci cj
     refine start_ (n := 51) (S := fun w' => True) (ds := []) #[false, false, false, false, false, false, false, false, false, false, false, false, false, false, false, false, false, false, false, false, false, false, false, false, false, false, false, false, false, false, false, false, false, false, false, false, false, false, false, false, false, false, false, false, false, false, false, false, false, false, false] (by kernel_rfl) rfl rfl trivial (fun hHeld => ?_)
     refine with_tabW raw100.tab13 raw100.bits13 (fun HT_ HW_ => ?_)
     refine pure_ (i := 0) (N := some 98) (v := ?_) (a' := ?_) (bm 1 51) rfl rfl (any_of HT_.out (by kernel_rfl)) (fun _ _ _ h => h) (Or.inl ⟨by rfl, ?_⟩) ?_ ?_
     rotate_left
     ·intro w'
      go_simp
      with_reducible rfl
     rotate_left
     ·simp only [Act.put, sA, sB, sC, i64_w, i32_w]
      rfl
     refine pure_ (i := 1) (N := some 99) (v := ?_) (a' := ?_) (bm 3 51) rfl rfl (any_of HT_.out (by kernel_rfl)) (fun _ _ _ h => h) (Or.inl ⟨by rfl, ?_⟩) ?_ ?_
     rotate_left
     ·intro w'
      go_simp
      with_reducible rfl
     rotate_left
     ·simp only [Act.put, sA, sB, sC, i64_w, i32_w]
      rfl
     refine pure_ (i := 2) (N := some 100) (v := ?_) (a' := ?_) (bm 7 51) rfl rfl (any_of HT_.out (by kernel_rfl)) (fun _ _ _ h => h) (Or.inl ⟨by rfl, ?_⟩) ?_ ?_
     rotate_left
     ·intro w'
      go_simp
      with_reducible rfl
     rotate_left
     ·simp only [Act.put, sA, sB, sC, i64_w, i32_w]
      rfl
     refine pure_ (i := 3) (N := some 101) (v := ?_) (a' := ?_) (bm 15 51) rfl rfl (any_of HT_.out (by kernel_rfl)) (fun _ _ _ h => h) (Or.inl ⟨by rfl, ?_⟩) ?_ ?_
     rotate_left
     ·intro w'
      go_simp
      with_reducible rfl
     rotate_left
     ·simp only [Act.put, sA, sB, sC, i64_w, i32_w]
      rfl
     refine pure_ (i := 4) (N := some 102) (v := ?_) (a' := ?_) (bm 31 51) rfl rfl (any_of HT_.out (by kernel_rfl)) (fun _ _ _ h => h) (Or.inl ⟨by rfl, ?_⟩) ?_ ?_
     rotate_left
     ·intro w'
      go_simp
      with_reducible rfl
     rotate_left
     ·simp only [Act.put, sA, sB, sC, i64_w, i32_w]
      rfl
     refine pure_ (i := 5) (N := some 103) (v := ?_) (a' := ?_) (bm 63 51) rfl rfl (any_of HT_.out (by kernel_rfl)) (fun _ _ _ h => h) (Or.inl ⟨by rfl, ?_⟩) ?_ ?_
     rotate_left
     ·intro w'
      go_simp
      with_reducible rfl
     rotate_left
     ·simp only [Act.put, sA, sB, sC, i64_w, i32_w]
      rfl
     refine pure_ (i := 6) (N := some 104) (v := ?_) (a' := ?_) (bm 127 51) rfl rfl (any_of HT_.out (by kernel_rfl)) (fun _ _ _ h => h) (Or.inl ⟨by rfl, ?_⟩) ?_ ?_
     rotate_left
     ·intro w'
      go_simp
      with_reducible rfl
     rotate_left
     ·simp only [Act.put, sA, sB, sC, i64_w, i32_w]
      rfl
     refine pure_ (i := 7) (N := some 105) (v := ?_) (a' := ?_) (bm 255 51) rfl rfl (any_of HT_.out (by kernel_rfl)) (fun _ _ _ h => h) (Or.inl ⟨by rfl, ?_⟩) ?_ ?_
     rotate_left
     ·intro w'
      go_simp
      with_reducible rfl
     rotate_left
     ·simp only [Act.put, sA, sB, sC, i64_w, i32_w]
      rfl
     refine pure_ (i := 8) (N := some 106) (v := ?_) (a' := ?_) (bm 511 51) rfl rfl (any_of HT_.out (by kernel_rfl)) (fun _ _ _ h => h) (Or.inl ⟨by rfl, ?_⟩) ?_ ?_
     rotate_left
     ·intro w'
      go_simp
      with_reducible rfl
     rotate_left
     ·simp only [Act.put, sA, sB, sC, i64_w, i32_w]
      rfl
     refine pure_ (i := 9) (N := some 107) (v := ?_) (a' := ?_) (bm 1023 51) rfl rfl (any_of HT_.out (by kernel_rfl)) (fun _ _ _ h => h) (Or.inl ⟨by rfl, ?_⟩) ?_ ?_
     rotate_left
     ·intro w'
      go_simp
      with_reducible rfl
     rotate_left
     ·simp only [Act.put, sA, sB, sC, i64_w, i32_w]
      rfl
     refine pure_ (i := 10) (N := some 108) (v := ?_) (a' := ?_) (bm 2047 51) rfl rfl (any_of HT_.out (by kernel_rfl)) (fun _ _ _ h => h) (Or.inl ⟨by rfl, ?_⟩) ?_ ?_
     rotate_left
     ·intro w'
      go_simp
      with_reducible rfl
     rotate_left
     ·simp only [Act.put, sA, sB, sC, i64_w, i32_w]
      rfl
     refine pure_ (i := 11) (N := some 109) (v := undef) (a' := ?_) (bm 4095 51) rfl rfl (any_of HT_.out (by kernel_rfl)) (fun _ _ _ h => h) (Or.inr ⟨by rfl, rfl⟩) ?_ ?_
     rotate_left
     ·simp only [Act.put, sA, sB, sC, i64_w, i32_w]
      rfl
     refine pure_ (i := 12) (N := some 110) (v := undef) (a' := ?_) (bm 8191 51) rfl rfl (any_of HT_.out (by kernel_rfl)) (fun _ _ _ h => h) (Or.inr ⟨by rfl, rfl⟩) ?_ ?_
     rotate_left
     ·simp only [Act.put, sA, sB, sC, i64_w, i32_w]
      rfl
     refine pure_ (i := 13) (N := some 111) (v := undef) (a' := ?_) (bm 16383 51) rfl rfl (any_of HT_.out (by kernel_rfl)) (fun _ _ _ h => h) (Or.inr ⟨by rfl, rfl⟩) ?_ ?_
     rotate_left
     ·simp only [Act.put, sA, sB, sC, i64_w, i32_w]
      rfl
     refine pure_ (i := 14) (N := some 112) (v := undef) (a' := ?_) (bm 32767 51) rfl rfl (any_of HT_.out (by kernel_rfl)) (fun _ _ _ h => h) (Or.inr ⟨by rfl, rfl⟩) ?_ ?_
     rotate_left
     ·simp only [Act.put, sA, sB, sC, i64_w, i32_w]
      rfl
     refine pure_ (i := 15) (N := some 113) (v := undef) (a' := ?_) (bm 65535 51) rfl rfl (any_of HT_.out (by kernel_rfl)) (fun _ _ _ h => h) (Or.inr ⟨by rfl, rfl⟩) ?_ ?_
     rotate_left
     ·simp only [Act.put, sA, sB, sC, i64_w, i32_w]
      rfl
     refine pure_ (i := 16) (N := some 114) (v := undef) (a' := ?_) (bm 131071 51) rfl rfl (any_of HT_.out (by kernel_rfl)) (fun _ _ _ h => h) (Or.inr ⟨by rfl, rfl⟩) ?_ ?_
     rotate_left
     ·simp only [Act.put, sA, sB, sC, i64_w, i32_w]
      rfl
     refine pure_ (i := 17) (N := some 115) (v := undef) (a' := ?_) (bm 262143 51) rfl rfl (any_of HT_.out (by kernel_rfl)) (fun _ _ _ h => h) (Or.inr ⟨by rfl, rfl⟩) ?_ ?_
     rotate_left
     ·simp only [Act.put, sA, sB, sC, i64_w, i32_w]
      rfl
     refine pure_ (i := 18) (N := some 116) (v := undef) (a' := ?_) (bm 524287 51) rfl rfl (any_of HT_.out (by kernel_rfl)) (fun _ _ _ h => h) (Or.inr ⟨by rfl, rfl⟩) ?_ ?_
     rotate_left
     ·simp only [Act.put, sA, sB, sC, i64_w, i32_w]
      rfl
     refine pure_ (i := 19) (N := some 117) (v := undef) (a' := ?_) (bm 1048575 51) rfl rfl (any_of HT_.out (by kernel_rfl)) (fun _ _ _ h => h) (Or.inr ⟨by rfl, rfl⟩) ?_ ?_
     rotate_left
     ·simp only [Act.put, sA, sB, sC, i64_w, i32_w]
      rfl
     refine pure_ (i := 20) (N := some 118) (v := ?_) (a' := ?_) (bm 2097151 51) rfl rfl (any_of HT_.out (by kernel_rfl)) (fun _ _ _ h => h) (Or.inl ⟨by rfl, ?_⟩) ?_ ?_
     rotate_left
     ·intro w'
      go_simp
      with_reducible rfl
     rotate_left
     ·simp only [Act.put, sA, sB, sC, i64_w, i32_w]
      rfl
     refine pure_ (i := 21) (N := some 119) (v := ?_) (a' := ?_) (bm 4194303 51) rfl rfl (any_of HT_.out (by kernel_rfl)) (fun _ _ _ h => h) (Or.inl ⟨by rfl, ?_⟩) ?_ ?_
     rotate_left
     ·intro w'
      go_simp
      with_reducible rfl
     rotate_left
     ·simp only [Act.put, sA, sB, sC, i64_w, i32_w]
      rfl
     refine pure_ (i := 22) (N := some 120) (v := undef) (a' := ?_) (bm 8388607 51) rfl rfl (any_of HT_.out (by kernel_rfl)) (fun _ _ _ h => h) (Or.inr ⟨by rfl, rfl⟩) ?_ ?_
     rotate_left
     ·simp only [Act.put, sA, sB, sC, i64_w, i32_w]
      rfl
     refine pure_ (i := 23) (N := some 121) (v := undef) (a' := ?_) (bm 16777215 51) rfl rfl (any_of HT_.out (by kernel_rfl)) (fun _ _ _ h => h) (Or.inr ⟨by rfl, rfl⟩) ?_ ?_
     rotate_left
     ·simp only [Act.put, sA, sB, sC, i64_w, i32_w]
      rfl
     refine pure_ (i := 24) (N := some 122) (v := undef) (a' := ?_) (bm 33554431 51) rfl rfl (any_of HT_.out (by kernel_rfl)) (fun _ _ _ h => h) (Or.inr ⟨by rfl, rfl⟩) ?_ ?_
     rotate_left
     ·simp only [Act.put, sA, sB, sC, i64_w, i32_w]
      rfl
     refine pure_ (i := 25) (N := some 123) (v := undef) (a' := ?_) (bm 67108863 51) rfl rfl (any_of HT_.out (by kernel_rfl)) (fun _ _ _ h => h) (Or.inr ⟨by rfl, rfl⟩) ?_ ?_
     rotate_left
     ·simp only [Act.put, sA, sB, sC, i64_w, i32_w]
      rfl
     refine pure_ (i := 26) (N := some 124) (v := undef) (a' := ?_) (bm 134217727 51) rfl rfl (any_of HT_.out (by kernel_rfl)) (fun _ _ _ h => h) (Or.inr ⟨by rfl, rfl⟩) ?_ ?_
     rotate_left
     ·simp only [Act.put, sA, sB, sC, i64_w, i32_w]
      rfl
     refine pure_ (i := 27) (N := some 125) (v := undef) (a' := ?_) (bm 268435455 51) rfl rfl (any_of HT_.out (by kernel_rfl)) (fun _ _ _ h => h) (Or.inr ⟨by rfl, rfl⟩) ?_ ?_
     rotate_left
     ·simp only [Act.put, sA, sB, sC, i64_w, i32_w]
      rfl
     refine pure_ (i := 28) (N := some 126) (v := undef) (a' := ?_) (bm 536870911 51) rfl rfl (any_of HT_.out (by kernel_rfl)) (fun _ _ _ h => h) (Or.inr ⟨by rfl, rfl⟩) ?_ ?_
     rotate_left
     ·simp only [Act.put, sA, sB, sC, i64_w, i32_w]
      rfl
     refine pure_ (i := 29) (N := some 127) (v := undef) (a' := ?_) (bm 1073741823 51) rfl rfl (any_of HT_.out (by kernel_rfl)) (fun _ _ _ h => h) (Or.inr ⟨by rfl, rfl⟩) ?_ ?_
     rotate_left
     ·simp only [Act.put, sA, sB, sC, i64_w, i32_w]
      rfl
     refine pure_ (i := 30) (N := some 128) (v := undef) (a' := ?_) (bm 2147483647 51) rfl rfl (any_of HT_.out (by kernel_rfl)) (fun _ _ _ h => h) (Or.inr ⟨by rfl, rfl⟩) ?_ ?_
     rotate_left
     ·simp only [Act.put, sA, sB, sC, i64_w, i32_w]
      rfl
     refine pure_ (i := 31) (N := some 129) (v := undef) (a' := ?_) (bm 4294967295 51) rfl rfl (any_of HT_.out (by kernel_rfl)) (fun _ _ _ h => h) (Or.inr ⟨by rfl, rfl⟩) ?_ ?_
     rotate_left
     ·simp only [Act.put, sA, sB, sC, i64_w, i32_w]
      rfl
     refine pure_ (i := 32) (N := some 130) (v := undef) (a' := ?_) (bm 8589934591 51) rfl rfl (any_of HT_.out (by kernel_rfl)) (fun _ _ _ h => h) (Or.inr ⟨by rfl, rfl⟩) ?_ ?_
     rotate_left
     ·simp only [Act.put, sA, sB, sC, i64_w, i32_w]
      rfl
     refine pure_ (i := 33) (N := some 131) (v := undef) (a' := ?_) (bm 17179869183 51) rfl rfl (any_of HT_.out (by kernel_rfl)) (fun _ _ _ h => h) (Or.inr ⟨by rfl, rfl⟩) ?_ ?_
     rotate_left
     ·simp only [Act.put, sA, sB, sC, i64_w, i32_w]
      rfl
     refine pure_ (i := 34) (N := some 132) (v := undef) (a' := ?_) (bm 34359738367 51) rfl rfl (any_of HT_.out (by kernel_rfl)) (fun _ _ _ h => h) (Or.inr ⟨by rfl, rfl⟩) ?_ ?_
     rotate_left
     ·simp only [Act.put, sA, sB, sC, i64_w, i32_w]
      rfl
     refine pure_ (i := 35) (N := some 133) (v := undef) (a' := ?_) (bm 68719476735 51) rfl rfl (any_of HT_.out (by kernel_rfl)) (fun _ _ _ h => h) (Or.inr ⟨by rfl, rfl⟩) ?_ ?_
     rotate_left
     ·simp only [Act.put, sA, sB, sC, i64_w, i32_w]
      rfl
     refine pure_ (i := 36) (N := some 134) (v := undef) (a' := ?_) (bm 137438953471 51) rfl rfl (any_of HT_.out (by kernel_rfl)) (fun _ _ _ h => h) (Or.inr ⟨by rfl, rfl⟩) ?_ ?_
     rotate_left
     ·simp only [Act.put, sA, sB, sC, i64_w, i32_w]
      rfl
     refine pure_ (i := 37) (N := some 135) (v := undef) (a' := ?_) (bm 274877906943 51) rfl rfl (any_of HT_.out (by kernel_rfl)) (fun _ _ _ h => h) (Or.inr ⟨by rfl, rfl⟩) ?_ ?_
     rotate_left
     ·simp only [Act.put, sA, sB, sC, i64_w, i32_w]
      rfl
     refine pure_ (i := 38) (N := some 136) (v := undef) (a' := ?_) (bm 549755813887 51) rfl rfl (any_of HT_.out (by kernel_rfl)) (fun _ _ _ h => h) (Or.inr ⟨by rfl, rfl⟩) ?_ ?_
     rotate_left
     ·simp only [Act.put, sA, sB, sC, i64_w, i32_w]
      rfl
     refine pure_ (i := 39) (N := some 137) (v := undef) (a' := ?_) (bm 1099511627775 51) rfl rfl (any_of HT_.out (by kernel_rfl)) (fun _ _ _ h => h) (Or.inr ⟨by rfl, rfl⟩) ?_ ?_
     rotate_left
     ·simp only [Act.put, sA, sB, sC, i64_w, i32_w]
      rfl
     refine pure_ (i := 40) (N := some 138) (v := undef) (a' := ?_) (bm 2199023255551 51) rfl rfl (any_of HT_.out (by kernel_rfl)) (fun _ _ _ h => h) (Or.inr ⟨by rfl, rfl⟩) ?_ ?_
     rotate_left
     ·simp only [Act.put, sA, sB, sC, i64_w, i32_w]
      rfl
     refine pure_ (i := 41) (N := some 139) (v := undef) (a' := ?_) (bm 4398046511103 51) rfl rfl (any_of HT_.out (by kernel_rfl)) (fun _ _ _ h => h) (Or.inr ⟨by rfl, rfl⟩) ?_ ?_
     rotate_left
     ·simp only [Act.put, sA, sB, sC, i64_w, i32_w]
      rfl
     refine pure_ (i := 42) (N := some 140) (v := undef) (a' := ?_) (bm 8796093022207 51) rfl rfl (any_of HT_.out (by kernel_rfl)) (fun _ _ _ h => h) (Or.inr ⟨by rfl, rfl⟩) ?_ ?_
     rotate_left
     ·simp only [Act.put, sA, sB, sC, i64_w, i32_w]
      rfl
     refine pure_ (i := 43) (N := some 141) (v := undef) (a' := ?_) (bm 17592186044415 51) rfl rfl (any_of HT_.out (by kernel_rfl)) (fun _ _ _ h => h) (Or.inr ⟨by rfl, rfl⟩) ?_ ?_
     rotate_left
     ·simp only [Act.put, sA, sB, sC, i64_w, i32_w]
      rfl
     refine pure_ (i := 44) (N := some 142) (v := undef) (a' := ?_) (bm 35184372088831 51) rfl rfl (any_of HT_.out (by kernel_rfl)) (fun _ _ _ h => h) (Or.inr ⟨by rfl, rfl⟩) ?_ ?_
     rotate_left
     ·simp only [Act.put, sA, sB, sC, i64_w, i32_w]
      rfl
     refine pure_ (i := 45) (N := some 143) (v := undef) (a' := ?_) (bm 70368744177663 51) rfl rfl (any_of HT_.out (by kernel_rfl)) (fun _ _ _ h => h) (Or.inr ⟨by rfl, rfl⟩) ?_ ?_
     rotate_left
     ·simp only [Act.put, sA, sB, sC, i64_w, i32_w]
      rfl
     refine pure_ (i := 46) (N := some 144) (v := undef) (a' := ?_) (bm 140737488355327 51) rfl rfl (any_of HT_.out (by kernel_rfl)) (fun _ _ _ h => h) (Or.inr ⟨by rfl, rfl⟩) ?_ ?_
     rotate_left
     ·simp only [Act.put, sA, sB, sC, i64_w, i32_w]
      rfl
     refine pure_ (i := 47) (N := some 145) (v := undef) (a' := ?_) (bm 281474976710655 51) rfl rfl (any_of HT_.out (by kernel_rfl)) (fun _ _ _ h => h) (Or.inr ⟨by rfl, rfl⟩) ?_ ?_
     rotate_left
     ·simp only [Act.put, sA, sB, sC, i64_w, i32_w]
      rfl
     refine pure_ (i := 48) (N := some 146) (v := undef) (a' := ?_) (bm 562949953421311 51) rfl rfl (any_of HT_.out (by kernel_rfl)) (fun _ _ _ h => h) (Or.inr ⟨by rfl, rfl⟩) ?_ ?_
     rotate_left
     ·simp only [Act.put, sA, sB, sC, i64_w, i32_w]
      rfl
     refine pure_ (i := 49) (N := some 147) (v := ?_) (a' := ?_) (bm 1125899906842623 51) rfl rfl (any_of HT_.out (by kernel_rfl)) (fun _ _ _ h => h) (Or.inl ⟨by rfl, ?_⟩) ?_ ?_
     rotate_left
     ·intro w'
      go_simp
      with_reducible rfl
     rotate_left
     ·simp only [Act.put, sA, sB, sC, i64_w, i32_w]
      rfl
     refine pure_ (i := 50) (N := some 97) (v := ?_) (a' := ?_) (bm 2251799813685247 51) rfl rfl (any_of HT_.out (by kernel_rfl)) (fun _ _ _ h => h) (Or.inl ⟨by rfl, ?_⟩) ?_ ?_
     rotate_left
     ·intro w'
      go_simp
      with_reducible rfl
     rotate_left
     ·simp only [Act.put, sA, sB, sC, i64_w, i32_w]
      rfl
     refine done_ (done_of HT_.out (by kernel_rfl)) ?_
     go_wp2
     go_meet
     case rel => exact ⟨rfl, HND, HBD⟩
    have g1 : decide ((i : Int) < (a2.length : Int)) = true := decide_eq_true (by omega)
    have g1' : decide (i < a2.length) = true := decide_eq_true ci
    have g2 : decide ((j : Int) < (b2.length : Int)) = true := decide_eq_true (by omega)
    have g2' : decide (j < b2.length) = true := decide_eq_true cj
    obtain ⟨ad, A7, c7, ea, hx0, hx1, hx2, hl2, hg2⟩ := at_T84 HA3.out.1 (i : Int) (by omega) (by omega)
    obtain ⟨bd, B7, d7, eb, hy0, hy1, hy2, hk2, hj2⟩ := at_T84 HB3.out.1 (j : Int) (by omega) (by omega)
    subst ea
    subst eb
    rw [← HX.out] at hx0 hx1 hx2 hl2 hg2
    rw [← HY.out] at hy0 hy1 hy2 hk2 hj2
    simp only [Int.toNat_natCast] at hx0 hx1 hx2 hy0 hy1 hy2
    have HLX := Aside0.mk hl2
    have HLY := Aside0.mk hk2
    have HGX := Aside0.mk hg2
    have HGY := Aside0.mk hj2
    clear hl2 hk2 hg2 hj2
    by_cases ca : Alk x y
    rotate_left
    ·rw [if_neg (fun h => ca h.2.2)] at hq
     injection hq with hq
     subst hq
     have HAK := Aside0.mk ((alike_is x y).trans (congrArg some (decide_eq_false ca)))
     have q1 : (i : Int) < (a2.length : Int) := by omega
     have q2 : (j : Int) < (b2.length : Int) := by omega
     clear ci cj ca HX HY
     refine start_ (n := 51) (S := fun w' => w'.cell? (ad.add (i * 3)) = some (.int .i64 x.f0) ∧ w'.cell? ⟨(ad.add (i * 3)).block, (ad.add (i * 3)).off + 1, none⟩ = some (.int .i64 x.f1) ∧ w'.cell? ⟨(ad.add (i * 3)).block, (ad.add (i * 3)).off + 2, none⟩ = some (.slice A7 x.f2.length c7) ∧ w'.cell? (bd.add (j * 3)) = some (.int .i64 y.f0) ∧ w'.cell? ⟨(bd.add (j * 3)).block, (bd.add (j * 3)).off + 1, none⟩ = some (.int .i64 y.f1) ∧ w'.cell? ⟨(bd.add (j * 3)).block, (bd.add (j * 3)).off + 2, none⟩ = some (.slice B7 y.f2.length d7)) (ds := []) #[false, false, false, false, false, false, false, false, false, false, false, false, false, false, false, false, false, false, false, false, false, false, false, false, false, false, false, false, false, false, false, false, false, false, false, false, false, false, false, false, false, false, false, false, false, false, false, false, false, false, false] (by kernel_rfl) rfl rfl ⟨((HBD.out.cell (World.block_lt_of_cell? w3 _ hx0)).trans hx0), ((HBD.out.cell (World.block_lt_of_cell? w3 _ hx1)).trans hx1), ((HBD.out.cell (World.block_lt_of_cell? w3 _ hx2)).trans hx2), ((HBD.out.cell (World.block_lt_of_cell? w3 _ hy0)).trans hy0), ((HBD.out.cell (World.block_lt_of_cell? w3 _ hy1)).trans hy1), ((HBD.out.cell (World.block_lt_of_cell? w3 _ hy2)).trans hy2)⟩ (fun hHeld => ?_)
     refine with_tabW raw100.tab13 raw100.bits13 (fun HT_ HW_ => ?_)
     refine pure_ (i := 0) (N := some 98) (v := ?_) (a' := ?_) (bm 1 51) rfl rfl (any_of HT_.out (by kernel_rfl)) (fun _ _ _ h => h) (Or.inl ⟨by rfl, ?_⟩) ?_ ?_
     rotate_left
     ·intro w'
      go_simp
      with_reducible rfl
     rotate_left
     ·simp only [Act.put, sA, sB, sC, i64_w, i32_w]
      rfl
     refine pure_ (i := 1) (N := some 99) (v := ?_) (a' := ?_) (bm 3 51) rfl rfl (any_of HT_.out (by kernel_rfl)) (fun _ _ _ h => h) (Or.inl ⟨by rfl, ?_⟩) ?_ ?_
     rotate_left
     ·intro w'
      go_simp
      with_reducible rfl
     rotate_left
     ·simp only [Act.put, sA, sB, sC, i64_w, i32_w]
      rfl
     refine pure_ (i := 2) (N := some 100) (v := ?_) (a' := ?_) (bm 7 51) rfl rfl (any_of HT_.out (by kernel_rfl)) (fun _ _ _ h => h) (Or.inl ⟨by rfl, ?_⟩) ?_ ?_
     rotate_left
     ·intro w'
      go_simp
      with_reducible rfl
     rotate_left
     ·simp only [Act.put, sA, sB, sC, i64_w, i32_w]
      rfl
     refine pure_ (i := 3) (N := some 101) (v := ?_) (a' := ?_) (bm 15 51) rfl rfl (any_of HT_.out (by kernel_rfl)) (fun _ _ _ h => h) (Or.inl ⟨by rfl, ?_⟩) ?_ ?_
     rotate_left
     ·intro w'
      go_simp
      with_reducible rfl
     rotate_left
     ·simp only [Act.put, sA, sB, sC, i64_w, i32_w]
      rfl
     refine pure_ (i := 4) (N := some 102) (v := ?_) (a' := ?_) (bm 31 51) rfl rfl (any_of HT_.out (by kernel_rfl)) (fun _ _ _ h => h) (Or.inl ⟨by rfl, ?_⟩) ?_ ?_
     rotate_left
     ·intro w'
      go_simp
      with_reducible rfl
     rotate_left
     ·simp only [Act.put, sA, sB, sC, i64_w, i32_w]
      rfl
     refine pure_ (i := 5) (N := some 103) (v := ?_) (a' := ?_) (bm 63 51) rfl rfl (any_of HT_.out (by kernel_rfl)) (fun _ _ _ h => h) (Or.inl ⟨by rfl, ?_⟩) ?_ ?_
     rotate_left
     ·intro w'
      go_simp
      with_reducible rfl
     rotate_left
     ·simp only [Act.put, sA, sB, sC, i64_w, i32_w]
      rfl
     refine pure_ (i := 6) (N := some 104) (v := ?_) (a' := ?_) (bm 127 51) rfl rfl (any_of HT_.out (by kernel_rfl)) (fun _ _ _ h => h) (Or.inl ⟨by rfl, ?_⟩) ?_ ?_
     rotate_left
     ·intro w'
      go_simp
      with_reducible rfl
     rotate_left
     ·simp only [Act.put, sA, sB, sC, i64_w, i32_w]
      rfl
     refine pure_ (i := 7) (N := some 105) (v := ?_) (a' := ?_) (bm 255 51) rfl rfl (any_of HT_.out (by kernel_rfl)) (fun _ _ _ h => h) (Or.inl ⟨by rfl, ?_⟩) ?_ ?_
     rotate_left
     ·intro w'
      go_simp
      with_reducible rfl
     rotate_left
     ·simp only [Act.put, sA, sB, sC, i64_w, i32_w]
      rfl
     refine pure_ (i := 8) (N := some 106) (v := ?_) (a' := ?_) (bm 511 51) rfl rfl (any_of HT_.out (by kernel_rfl)) (fun _ _ _ h => h) (Or.inl ⟨by rfl, ?_⟩) ?_ ?_
     rotate_left
     ·intro w'
      go_simp
      with_reducible rfl
     rotate_left
     ·simp only [Act.put, sA, sB, sC, i64_w, i32_w]
      rfl
     refine pure_ (i := 9) (N := some 107) (v := ?_) (a' := ?_) (bm 1023 51) rfl rfl (any_of HT_.out (by kernel_rfl)) (fun _ _ _ h => h) (Or.inl ⟨by rfl, ?_⟩) ?_ ?_
     rotate_left
     ·intro w'
      go_simp
      with_reducible rfl
     rotate_left
     ·simp only [Act.put, sA, sB, sC, i64_w, i32_w]
      rfl
     refine pure_ (i := 10) (N := some 108) (v := ?_) (a' := ?_) (bm 2047 51) rfl rfl (any_of HT_.out (by kernel_rfl)) (fun _ _ _ h => h) (Or.inl ⟨by rfl, ?_⟩) ?_ ?_
     rotate_left
     ·intro w'
      go_simp
      with_reducible rfl
     rotate_left
     ·simp only [Act.put, sA, sB, sC, i64_w, i32_w]
      rfl
     refine pure_ (i := 11) (N := some 109) (v := ?_) (a' := ?_) (bm 4095 51) rfl rfl (any_of HT_.out (by kernel_rfl)) (fun _ _ _ h => h) (Or.inl ⟨by rfl, ?_⟩) ?_ ?_
     rotate_left
     ·intro w'
      go_simp
      with_reducible rfl
     rotate_left
     ·simp only [Act.put, sA, sB, sC, i64_w, i32_w]
      rfl
     refine pure_ (i := 12) (N := some 110) (v := ?_) (a' := ?_) (bm 8191 51) rfl rfl (any_of HT_.out (by kernel_rfl)) (fun _ _ _ h => h) (Or.inl ⟨by rfl, ?_⟩) ?_ ?_
     rotate_left
     ·intro w'
      go_simp
      with_reducible rfl
     rotate_left
     ·simp only [Act.put, sA, sB, sC, i64_w, i32_w]
      rfl
     refine pure_ (i := 13) (N := some 111) (v := ?_) (a' := ?_) (bm 16383 51) rfl rfl (any_of HT_.out (by kernel_rfl)) (fun _ _ _ h => h) (Or.inl ⟨by rfl, ?_⟩) ?_ ?_
     rotate_left
     ·intro w'
      go_simp
      with_reducible rfl
     rotate_left
     ·simp only [Act.put, sA, sB, sC, i64_w, i32_w]
      rfl
     refine pure_ (i := 15) (N := some 113) (v := ?_) (a' := ?_) (bm 49151 51) rfl rfl (any_of HT_.out (by kernel_rfl)) (fun _ _ _ h => h) (Or.inl ⟨by rfl, ?_⟩) ?_ ?_
     rotate_left
     ·intro w'
      go_simp
      with_reducible rfl
     rotate_left
     ·simp only [Act.put, sA, sB, sC, i64_w, i32_w]
      rfl
     refine pure_ (i := 16) (N := some 114) (v := ?_) (a' := ?_) (bm 114687 51) rfl rfl (any_of HT_.out (by kernel_rfl)) (fun _ _ _ h => h) (Or.inl ⟨by rfl, ?_⟩) ?_ ?_
     rotate_left
     ·intro w'
      go_simp
      with_reducible rfl
     rotate_left
     ·simp only [Act.put, sA, sB, sC, i64_w, i32_w]
      rfl
     refine pure_ (i := 17) (N := some 115) (v := ?_) (a' := ?_) (bm 245759 51) rfl rfl (any_of HT_.out (by kernel_rfl)) (fun _ _ _ h => h) (Or.inl ⟨by rfl, ?_⟩) ?_ ?_
     rotate_left
     ·intro w'
      go_simp
      with_reducible rfl
     rotate_left
     ·simp only [Act.put, sA, sB, sC, i64_w, i32_w]
      rfl
     refine take_ (i := 14) (N := some 112) (v := ?_) (a' := ?_) (bm 262143 51) rfl rfl (take_ofW HT_.out HW_.out (by kernel_rfl)) (fun _ _ _ h => h) (Or.inl ⟨by rfl, ?_⟩) hHeld ?_ ?_
     rotate_left
     ·rintro w' ⟨s0, s1, s2, s3, s4, s5⟩
      go_simp
      with_reducible rfl
     rotate_left
     ·simp only [Act.put, sA, sB, sC, i64_w, i32_w]
      rfl
     refine take_ (i := 18) (N := some 116) (v := ?_) (a' := ?_) (bm 524287 51) rfl rfl (take_ofW HT_.out HW_.out (by kernel_rfl)) (fun _ _ _ h => h) (Or.inl ⟨by rfl, ?_⟩) hHeld ?_ ?_
     rotate_left
     ·rintro w' ⟨s0, s1, s2, s3, s4, s5⟩
      go_simp
      with_reducible rfl
     rotate_left
     ·simp only [Act.put, sA, sB, sC, i64_w, i32_w]
      rfl
     refine one_ (i := 19) (N := some 117) (bm 1048575 51) rfl rfl (one_of HT_.out (by kernel_rfl)) (by decide) (fun K hK => ?_)
     refine goes_ Try.func116 (by kernel_rfl) rfl #[.agg #[.int .i64 x.f0, .int .i64 x.f1, .slice A7 x.f2.length c7], .agg #[.int .i64 y.f0, .int .i64 y.f1, .slice B7 y.f2.length d7]] (by rfl) rfl rfl (by simp only [List.map_toArray, List.map_cons, List.map_nil]; rfl) ?_
     with_reducible refine (diff_alike.calls x.f0 x.f1 A7 c7 x.f2 y.f0 y.f1 B7 d7 y.f2 false _ (Kd.C_below HGX.out HBD.out) HLX.out (Kd.C_below HGY.out HBD.out) HLY.out HAK.out).mono ?_
     rintro e w9 ⟨rfl, hb9⟩
     refine ⟨_, rfl, ?_⟩
     have HB9 := Aside0.mk (below_step HBD.out hb9)
     have HN9 := Aside0.mk (Kd.N_below HND.out hb9)
     clear hb9
     refine hK.out _ _ ⟨((HB9.out.cell (World.block_lt_of_cell? w3 _ hx0)).trans hx0), ((HB9.out.cell (World.block_lt_of_cell? w3 _ hx1)).trans hx1), ((HB9.out.cell (World.block_lt_of_cell? w3 _ hx2)).trans hx2), ((HB9.out.cell (World.block_lt_of_cell? w3 _ hy0)).trans hy0), ((HB9.out.cell (World.block_lt_of_cell? w3 _ hy1)).trans hy1), ((HB9.out.cell (World.block_lt_of_cell? w3 _ hy2)).trans hy2)⟩ (fun hHeld => ?_)
     clear hK K
     refine norm_ (a' := ?_) ?_ ?_
     rotate_left
     ·show Act.put _ (some 117) _ = _
      simp only [Act.put, sA, sB, sC, i64_w, i32_w]
      rfl
     refine pure_ (i := 20) (N := some 118) (v := ?_) (a' := ?_) (bm 2097151 51) rfl rfl (any_of HT_.out (by kernel_rfl)) (fun _ _ _ h => h) (Or.inl ⟨by rfl, ?_⟩) ?_ ?_
     rotate_left
     ·intro w'
      go_simp
      with_reducible rfl
     rotate_left
     ·simp only [Act.put, sA, sB, sC, i64_w, i32_w]
      rfl
     refine pure_ (i := 21) (N := some 119) (v := ?_) (a' := ?_) (bm 4194303 51) rfl rfl (any_of HT_.out (by kernel_rfl)) (fun _ _ _ h => h) (Or.inl ⟨by rfl, ?_⟩) ?_ ?_
     rotate_left
     ·intro w'
      go_simp
      with_reducible rfl
     rotate_left
     ·simp only [Act.put, sA, sB, sC, i64_w, i32_w]
      rfl
     refine pure_ (i := 22) (N := some 120) (v := undef) (a' := ?_) (bm 8388607 51) rfl rfl (any_of HT_.out (by kernel_rfl)) (fun _ _ _ h => h) (Or.inr ⟨by rfl, rfl⟩) ?_ ?_
     rotate_left
     ·simp only [Act.put, sA, sB, sC, i64_w, i32_w]
      rfl
     refine pure_ (i := 23) (N := some 121) (v := undef) (a' := ?_) (bm 16777215 51) rfl rfl (any_of HT_.out (by kernel_rfl)) (fun _ _ _ h => h) (Or.inr ⟨by rfl, rfl⟩) ?_ ?_
     rotate_left
     ·simp only [Act.put, sA, sB, sC, i64_w, i32_w]
      rfl
     refine pure_ (i := 24) (N := some 122) (v := undef) (a' := ?_) (bm 33554431 51) rfl rfl (any_of HT_.out (by kernel_rfl)) (fun _ _ _ h => h) (Or.inr ⟨by rfl, rfl⟩) ?_ ?_
     rotate_left
     ·simp only [Act.put, sA, sB, sC, i64_w, i32_w]
      rfl
     refine pure_ (i := 25) (N := some 123) (v := undef) (a' := ?_) (bm 67108863 51) rfl rfl (any_of HT_.out (by kernel_rfl)) (fun _ _ _ h => h) (Or.inr ⟨by rfl, rfl⟩) ?_ ?_
     rotate_left
     ·simp only [Act.put, sA, sB, sC, i64_w, i32_w]
      rfl
     refine pure_ (i := 26) (N := some 124) (v := undef) (a' := ?_) (bm 134217727 51) rfl rfl (any_of HT_.out (by kernel_rfl)) (fun _ _ _ h => h) (Or.inr ⟨by rfl, rfl⟩) ?_ ?_
     rotate_left
     ·simp only [Act.put, sA, sB, sC, i64_w, i32_w]
      rfl
     refine pure_ (i := 27) (N := some 125) (v := undef) (a' := ?_) (bm 268435455 51) rfl rfl (any_of HT_.out (by kernel_rfl)) (fun _ _ _ h => h) (Or.inr ⟨by rfl, rfl⟩) ?_ ?_
     rotate_left
     ·simp only [Act.put, sA, sB, sC, i64_w, i32_w]
      rfl
     refine pure_ (i := 28) (N := some 126) (v := undef) (a' := ?_) (bm 536870911 51) rfl rfl (any_of HT_.out (by kernel_rfl)) (fun _ _ _ h => h) (Or.inr ⟨by rfl, rfl⟩) ?_ ?_
     rotate_left
     ·simp only [Act.put, sA, sB, sC, i64_w, i32_w]
      rfl
     refine pure_ (i := 29) (N := some 127) (v := undef) (a' := ?_) (bm 1073741823 51) rfl rfl (any_of HT_.out (by kernel_rfl)) (fun _ _ _ h => h) (Or.inr ⟨by rfl, rfl⟩) ?_ ?_
     rotate_left
     ·simp only [Act.put, sA, sB, sC, i64_w, i32_w]
      rfl
     refine pure_ (i := 30) (N := some 128) (v := undef) (a' := ?_) (bm 2147483647 51) rfl rfl (any_of HT_.out (by kernel_rfl)) (fun _ _ _ h => h) (Or.inr ⟨by rfl, rfl⟩) ?_ ?_
     rotate_left
     ·simp only [Act.put, sA, sB, sC, i64_w, i32_w]
      rfl
     refine pure_ (i := 31) (N := some 129) (v := undef) (a' := ?_) (bm 4294967295 51) rfl rfl (any_of HT_.out (by kernel_rfl)) (fun _ _ _ h => h) (Or.inr ⟨by rfl, rfl⟩) ?_ ?_
     rotate_left
     ·simp only [Act.put, sA, sB, sC, i64_w, i32_w]
      rfl
     refine pure_ (i := 32) (N := some 130) (v := undef) (a' := ?_) (bm 8589934591 51) rfl rfl (any_of HT_.out (by kernel_rfl)) (fun _ _ _ h => h) (Or.inr ⟨by rfl, rfl⟩) ?_ ?_
     rotate_left
     ·simp only [Act.put, sA, sB, sC, i64_w, i32_w]
      rfl
     refine pure_ (i := 33) (N := some 131) (v := undef) (a' := ?_) (bm 17179869183 51) rfl rfl (any_of HT_.out (by kernel_rfl)) (fun _ _ _ h => h) (Or.inr ⟨by rfl, rfl⟩) ?_ ?_
     rotate_left
     ·simp only [Act.put, sA, sB, sC, i64_w, i32_w]
      rfl
     refine pure_ (i := 34) (N := some 132) (v := undef) (a' := ?_) (bm 34359738367 51) rfl rfl (any_of HT_.out (by kernel_rfl)) (fun _ _ _ h => h) (Or.inr ⟨by rfl, rfl⟩) ?_ ?_
     rotate_left
     ·simp only [Act.put, sA, sB, sC, i64_w, i32_w]
      rfl
     refine pure_ (i := 35) (N := some 133) (v := undef) (a' := ?_) (bm 68719476735 51) rfl rfl (any_of HT_.out (by kernel_rfl)) (fun _ _ _ h => h) (Or.inr ⟨by rfl, rfl⟩) ?_ ?_
     rotate_left
     ·simp only [Act.put, sA, sB, sC, i64_w, i32_w]
      rfl
     refine pure_ (i := 36) (N := some 134) (v := undef) (a' := ?_) (bm 137438953471 51) rfl rfl (any_of HT_.out (by kernel_rfl)) (fun _ _ _ h => h) (Or.inr ⟨by rfl, rfl⟩) ?_ ?_
     rotate_left
     ·simp only [Act.put, sA, sB, sC, i64_w, i32_w]
      rfl
     refine pure_ (i := 37) (N := some 135) (v := undef) (a' := ?_) (bm 274877906943 51) rfl rfl (any_of HT_.out (by kernel_rfl)) (fun _ _ _ h => h) (Or.inr ⟨by rfl, rfl⟩) ?_ ?_
     rotate_left
     ·simp only [Act.put, sA, sB, sC, i64_w, i32_w]
      rfl
     refine pure_ (i := 38) (N := some 136) (v := undef) (a' := ?_) (bm 549755813887 51) rfl rfl (any_of HT_.out (by kernel_rfl)) (fun _ _ _ h => h) (Or.inr ⟨by rfl, rfl⟩) ?_ ?_
     rotate_left
     ·simp only [Act.put, sA, sB, sC, i64_w, i32_w]
      rfl
     refine pure_ (i := 39) (N := some 137) (v := undef) (a' := ?_) (bm 1099511627775 51) rfl rfl (any_of HT_.out (by kernel_rfl)) (fun _ _ _ h => h) (Or.inr ⟨by rfl, rfl⟩) ?_ ?_
     rotate_left
     ·simp only [Act.put, sA, sB, sC, i64_w, i32_w]
      rfl
     refine pure_ (i := 40) (N := some 138) (v := undef) (a' := ?_) (bm 2199023255551 51) rfl rfl (any_of HT_.out (by kernel_rfl)) (fun _ _ _ h => h) (Or.inr ⟨by rfl, rfl⟩) ?_ ?_
     rotate_left
     ·simp only [Act.put, sA, sB, sC, i64_w, i32_w]
      rfl
     refine pure_ (i := 41) (N := some 139) (v := undef) (a' := ?_) (bm 4398046511103 51) rfl rfl (any_of HT_.out (by kernel_rfl)) (fun _ _ _ h => h) (Or.inr ⟨by rfl, rfl⟩) ?_ ?_
     rotate_left
     ·simp only [Act.put, sA, sB, sC, i64_w, i32_w]
      rfl
     refine pure_ (i := 42) (N := some 140) (v := undef) (a' := ?_) (bm 8796093022207 51) rfl rfl (any_of HT_.out (by kernel_rfl)) (fun _ _ _ h => h) (Or.inr ⟨by rfl, rfl⟩) ?_ ?_
     rotate_left
     ·simp only [Act.put, sA, sB, sC, i64_w, i32_w]
      rfl
     refine pure_ (i := 43) (N := some 141) (v := undef) (a' := ?_) (bm 17592186044415 51) rfl rfl (any_of HT_.out (by kernel_rfl)) (fun _ _ _ h => h) (Or.inr ⟨by rfl, rfl⟩) ?_ ?_
     rotate_left
     ·simp only [Act.put, sA, sB, sC, i64_w, i32_w]
      rfl
     refine pure_ (i := 44) (N := some 142) (v := undef) (a' := ?_) (bm 35184372088831 51) rfl rfl (any_of HT_.out (by kernel_rfl)) (fun _ _ _ h => h) (Or.inr ⟨by rfl, rfl⟩) ?_ ?_
     rotate_left
     ·simp only [Act.put, sA, sB, sC, i64_w, i32_w]
      rfl
     refine pure_ (i := 45) (N := some 143) (v := undef) (a' := ?_) (bm 70368744177663 51) rfl rfl (any_of HT_.out (by kernel_rfl)) (fun _ _ _ h => h) (Or.inr ⟨by rfl, rfl⟩) ?_ ?_
     rotate_left
     ·simp only [Act.put, sA, sB, sC, i64_w, i32_w]
      rfl
     refine pure_ (i := 46) (N := some 144) (v := undef) (a' := ?_) (bm 140737488355327 51) rfl rfl (any_of HT_.out (by kernel_rfl)) (fun _ _ _ h => h) (Or.inr ⟨by rfl, rfl⟩) ?_ ?_
     rotate_left
     ·simp only [Act.put, sA, sB, sC, i64_w, i32_w]
      rfl
     refine pure_ (i := 47) (N := some 145) (v := undef) (a' := ?_) (bm 281474976710655 51) rfl rfl (any_of HT_.out (by kernel_rfl)) (fun _ _ _ h => h) (Or.inr ⟨by rfl, rfl⟩) ?_ ?_
     rotate_left
     ·simp only [Act.put, sA, sB, sC, i64_w, i32_w]
      rfl
     refine pure_ (i := 48) (N := some 146) (v := undef) (a' := ?_) (bm 562949953421311 51) rfl rfl (any_of HT_.out (by kernel_rfl)) (fun _ _ _ h => h) (Or.inr ⟨by rfl, rfl⟩) ?_ ?_
     rotate_left
     ·simp only [Act.put, sA, sB, sC, i64_w, i32_w]
      rfl
     refine pure_ (i := 49) (N := some 147) (v := ?_) (a' := ?_) (bm 1125899906842623 51) rfl rfl (any_of HT_.out (by kernel_rfl)) (fun _ _ _ h => h) (Or.inl ⟨by rfl, ?_⟩) ?_ ?_
     rotate_left
     ·intro w'
      go_simp
      with_reducible rfl
     rotate_left
     ·simp only [Act.put, sA, sB, sC, i64_w, i32_w]
      rfl
     refine pure_ (i := 50) (N := some 97) (v := ?_) (a' := ?_) (bm 2251799813685247 51) rfl rfl (any_of HT_.out (by kernel_rfl)) (fun _ _ _ h => h) (Or.inl ⟨by rfl, ?_⟩) ?_ ?_
     rotate_left
     ·intro w'
      go_simp
      with_reducible rfl
     rotate_left
     ·simp only [Act.put, sA, sB, sC, i64_w, i32_w]
      rfl
     refine done_ (done_of HT_.out (by kernel_rfl)) ?_
     go_wp2
     go_meet
     case rel => exact ⟨rfl, HN9, HB9⟩
    rw [if_pos ⟨ci, cj, ca⟩] at hq
    obtain ⟨p, hp, hq⟩ := Option.bind_eq_some_iff.1 hq
    obtain ⟨c1_, hc1, hq⟩ := Option.bind_eq_some_iff.1 hq
    obtain ⟨c2_, hc2, hq⟩ := Option.bind_eq_some_iff.1 hq
    injection hq with hq
    have HPR := Aside0.mk hp
    have HQQ := Aside0.mk hq
    obtain ⟨i1, hi1⟩ : ∃ n : Nat, n = i + 1 := ⟨_, rfl⟩
    obtain ⟨j1, hj1⟩ : ∃ n : Nat, n = j + 1 := ⟨_, rfl⟩
    have hm1 := HA3.out.2.2
    have hm2 := HB3.out.2.2
    have wi : wrap64 ((i : Int) + 1) = (i1 : Int) := by rw [w64 (by omega) (by omega)]; omega
    have wj : wrap64 ((j : Int) + 1) = (j1 : Int) := by rw [w64 (by omega) (by omega)]; omega
    rw [wi, wj] at hc2
    obtain ⟨⟨_, k1, _, k2⟩, k3⟩ := cellT_some hc1
    obtain ⟨⟨_, k4, _, k5⟩, k6⟩ := cellT_some hc2
    obtain ⟨td, E8, e8, et, hr0, hle, hre⟩ := at_L7 HT3.out (i : Int) (Int.natCast_nonneg _) k1
    subst et
    obtain ⟨re, er, hr1⟩ := Kd.at_int hre (j : Int) (Int.natCast_nonneg _) k2
    subst er
    obtain ⟨td', F8, f8, et, hr2, hlf, hrf⟩ := at_L7 HT3.out (i1 : Int) (Int.natCast_nonneg _) k4
    obtain rfl : td = td' := Option.some.inj et
    obtain ⟨rf, ef, hr3⟩ := Kd.at_int hrf (j1 : Int) (Int.natCast_nonneg _) k5
    subst ef
    rw [k3] at hr1
    rw [k6] at hr3
    simp only [Int.toNat_natCast] at hr0 hr1 hr2 hr3
    have HAK := Aside0.mk ((alike_is x y).trans (congrArg some (decide_eq_true ca)))
    have q1 : (i : Int) < (a2.length : Int) := by omega
    have q2 : (j : Int) < (b2.length : Int) := by omega
    clear hp hc1 hc2 hq et hre hle hrf hlf k3 k6 hi1 hj1 hm1 hm2 ci cj ca HX HY
    refine start_ (n := 51) (S := fun w' => w'.cell? (ad.add (i * 3)) = some (.int .i64 x.f0) ∧ w'.cell? ⟨(ad.add (i * 3)).block, (ad.add (i * 3)).off + 1, none⟩ = some (.int .i64 x.f1) ∧ w'.cell? ⟨(ad.add (i * 3)).block, (ad.add (i * 3)).off + 2, none⟩ = some (.slice A7 x.f2.length c7) ∧ w'.cell? (bd.add (j * 3)) = some (.int .i64 y.f0) ∧ w'.cell? ⟨(bd.add (j * 3)).block, (bd.add (j * 3)).off + 1, none⟩ = some (.int .i64 y.f1) ∧ w'.cell? ⟨(bd.add (j * 3)).block, (bd.add (j * 3)).off + 2, none⟩ = some (.slice B7 y.f2.length d7) ∧ w'.cell? (td.add i) = some (.slice (some re) (rd_L7 t (i : Int)).length e8) ∧ w'.cell? (re.add j) = some (.int .i64 c1_) ∧ w'.cell? (td.add i1) = some (.slice (some rf) (rd_L7 t (i1 : Int)).length f8) ∧ w'.cell? (rf.add j1) = some (.int .i64 c2_)) (ds := []) #[false, false, false, false, false, false, false, false, false, false, false, false, false, false, false, false, false, false, false, false, false, false, false, false, false, false, false, false, false, false, false, false, false, false, false, false, false, false, false, false, false, false, false, false, false, false, false, false, false, false, false] (by kernel_rfl) rfl rfl ⟨((HBD.out.cell (World.block_lt_of_cell? w3 _ hx0)).trans hx0), ((HBD.out.cell (World.block_lt_of_cell? w3 _ hx1)).trans hx1), ((HBD.out.cell (World.block_lt_of_cell? w3 _ hx2)).trans hx2), ((HBD.out.cell (World.block_lt_of_cell? w3 _ hy0)).trans hy0), ((HBD.out.cell (World.block_lt_of_cell? w3 _ hy1)).trans hy1), ((HBD.out.cell (World.block_lt_of_cell? w3 _ hy2)).trans hy2), ((HBD.out.cell (World.block_lt_of_cell? w3 _ hr0)).trans hr0), ((HBD.out.cell (World.block_lt_of_cell? w3 _ hr1)).trans hr1), ((HBD.out.cell (World.block_lt_of_cell? w3 _ hr2)).trans hr2), ((HBD.out.cell (World.block_lt_of_cell? w3 _ hr3)).trans hr3)⟩ (fun hHeld => ?_)
    refine with_tabW raw100.tab13 raw100.bits13 (fun HT_ HW_ => ?_)
    refine pure_ (i := 0) (N := some 98) (v := ?_) (a' := ?_) (bm 1 51) rfl rfl (any_of HT_.out (by kernel_rfl)) (fun _ _ _ h => h) (Or.inl ⟨by rfl, ?_⟩) ?_ ?_
    rotate_left
    ·intro w'
     go_simp
     with_reducible rfl
    rotate_left
    ·simp only [Act.put, sA, sB, sC, i64_w, i32_w]
     rfl
    refine pure_ (i := 1) (N := some 99) (v := ?_) (a' := ?_) (bm 3 51) rfl rfl (any_of HT_.out (by kernel_rfl)) (fun _ _ _ h => h) (Or.inl ⟨by rfl, ?_⟩) ?_ ?_
    rotate_left
    ·intro w'
     go_simp
     with_reducible rfl
    rotate_left
    ·simp only [Act.put, sA, sB, sC, i64_w, i32_w]
     rfl
    refine pure_ (i := 2) (N := some 100) (v := ?_) (a' := ?_) (bm 7 51) rfl rfl (any_of HT_.out (by kernel_rfl)) (fun _ _ _ h => h) (Or.inl ⟨by rfl, ?_⟩) ?_ ?_
    rotate_left
    ·intro w'
     go_simp
     with_reducible rfl
    rotate_left
    ·simp only [Act.put, sA, sB, sC, i64_w, i32_w]
     rfl
    refine pure_ (i := 3) (N := some 101) (v := ?_) (a' := ?_) (bm 15 51) rfl rfl (any_of HT_.out (by kernel_rfl)) (fun _ _ _ h => h) (Or.inl ⟨by rfl, ?_⟩) ?_ ?_
    rotate_left
    ·intro w'
     go_simp
     with_reducible rfl
    rotate_left
    ·simp only [Act.put, sA, sB, sC, i64_w, i32_w]
     rfl
    refine pure_ (i := 4) (N := some 102) (v := ?_) (a' := ?_) (bm 31 51) rfl rfl (any_of HT_.out (by kernel_rfl)) (fun _ _ _ h => h) (Or.inl ⟨by rfl, ?_⟩) ?_ ?_
    rotate_left
    ·intro w'
     go_simp
     with_reducible rfl
    rotate_left
    ·simp only [Act.put, sA, sB, sC, i64_w, i32_w]
     rfl
    refine pure_ (i := 5) (N := some 103) (v := ?_) (a' := ?_) (bm 63 51) rfl rfl (any_of HT_.out (by kernel_rfl)) (fun _ _ _ h => h) (Or.inl ⟨by rfl, ?_⟩) ?_ ?_
    rotate_left
    ·intro w'
     go_simp
     with_reducible rfl
    rotate_left
    ·simp only [Act.put, sA, sB, sC, i64_w, i32_w]
     rfl
    refine pure_ (i := 6) (N := some 104) (v := ?_) (a' := ?_) (bm 127 51) rfl rfl (any_of HT_.out (by kernel_rfl)) (fun _ _ _ h => h) (Or.inl ⟨by rfl, ?_⟩) ?_ ?_
    rotate_left
    ·intro w'
     go_simp
     with_reducible rfl
    rotate_left
    ·simp only [Act.put, sA, sB, sC, i64_w, i32_w]
     rfl
    refine pure_ (i := 7) (N := some 105) (v := ?_) (a' := ?_) (bm 255 51) rfl rfl (any_of HT_.out (by kernel_rfl)) (fun _ _ _ h => h) (Or.inl ⟨by rfl, ?_⟩) ?_ ?_
    rotate_left
    ·intro w'
     go_simp
     with_reducible rfl
    rotate_left
    ·simp only [Act.put, sA, sB, sC, i64_w, i32_w]
     rfl
    refine pure_ (i := 8) (N := some 106) (v := ?_) (a' := ?_) (bm 511 51) rfl rfl (any_of HT_.out (by kernel_rfl)) (fun _ _ _ h => h) (Or.inl ⟨by rfl, ?_⟩) ?_ ?_
    rotate_left
    ·intro w'
     go_simp
     with_reducible rfl
    rotate_left
    ·simp only [Act.put, sA, sB, sC, i64_w, i32_w]
     rfl
    refine pure_ (i := 9) (N := some 107) (v := ?_) (a' := ?_) (bm 1023 51) rfl rfl (any_of HT_.out (by kernel_rfl)) (fun _ _ _ h => h) (Or.inl ⟨by rfl, ?_⟩) ?_ ?_
    rotate_left
    ·intro w'
     go_simp
     with_reducible rfl
    rotate_left
    ·simp only [Act.put, sA, sB, sC, i64_w, i32_w]
     rfl
    refine pure_ (i := 10) (N := some 108) (v := ?_) (a' := ?_) (bm 2047 51) rfl rfl (any_of HT_.out (by kernel_rfl)) (fun _ _ _ h => h) (Or.inl ⟨by rfl, ?_⟩) ?_ ?_
    rotate_left
    ·intro w'
     go_simp
     with_reducible rfl
    rotate_left
    ·simp only [Act.put, sA, sB, sC, i64_w, i32_w]
     rfl
    refine pure_ (i := 11) (N := some 109) (v := ?_) (a' := ?_) (bm 4095 51) rfl rfl (any_of HT_.out (by kernel_rfl)) (fun _ _ _ h => h) (Or.inl ⟨by rfl, ?_⟩) ?_ ?_
    rotate_left
    ·intro w'
     go_simp
     with_reducible rfl
    rotate_left
    ·simp only [Act.put, sA, sB, sC, i64_w, i32_w]
     rfl
    refine pure_ (i := 12) (N := some 110) (v := ?_) (a' := ?_) (bm 8191 51) rfl rfl (any_of HT_.out (by kernel_rfl)) (fun _ _ _ h => h) (Or.inl ⟨by rfl, ?_⟩) ?_ ?_
    rotate_left
    ·intro w'
     go_simp
     with_reducible rfl
    rotate_left
    ·simp only [Act.put, sA, sB, sC, i64_w, i32_w]
     rfl
    refine pure_ (i := 13) (N := some 111) (v := ?_) (a' := ?_) (bm 16383 51) rfl rfl (any_of HT_.out (by kernel_rfl)) (fun _ _ _ h => h) (Or.inl ⟨by rfl, ?_⟩) ?_ ?_
    rotate_left
    ·intro w'
     go_simp
     with_reducible rfl
    rotate_left
    ·simp only [Act.put, sA, sB, sC, i64_w, i32_w]
     rfl
    refine pure_ (i := 15) (N := some 113) (v := ?_) (a' := ?_) (bm 49151 51) rfl rfl (any_of HT_.out (by kernel_rfl)) (fun _ _ _ h => h) (Or.inl ⟨by rfl, ?_⟩) ?_ ?_
    rotate_left
    ·intro w'
     go_simp
     with_reducible rfl
    rotate_left
    ·simp only [Act.put, sA, sB, sC, i64_w, i32_w]
     rfl
    refine pure_ (i := 16) (N := some 114) (v := ?_) (a' := ?_) (bm 114687 51) rfl rfl (any_of HT_.out (by kernel_rfl)) (fun _ _ _ h => h) (Or.inl ⟨by rfl, ?_⟩) ?_ ?_
    rotate_left
    ·intro w'
     go_simp
     with_reducible rfl
    rotate_left
    ·simp only [Act.put, sA, sB, sC, i64_w, i32_w]
     rfl
    refine pure_ (i := 17) (N := some 115) (v := ?_) (a' := ?_) (bm 245759 51) rfl rfl (any_of HT_.out (by kernel_rfl)) (fun _ _ _ h => h) (Or.inl ⟨by rfl, ?_⟩) ?_ ?_
    rotate_left
    ·intro w'
     go_simp
     with_reducible rfl
    rotate_left
    ·simp only [Act.put, sA, sB, sC, i64_w, i32_w]
     rfl
    refine take_ (i := 14) (N := some 112) (v := ?_) (a' := ?_) (bm 262143 51) rfl rfl (take_ofW HT_.out HW_.out (by kernel_rfl)) (fun _ _ _ h => h) (Or.inl ⟨by rfl, ?_⟩) hHeld ?_ ?_
    rotate_left
    ·rintro w' ⟨s0, s1, s2, s3, s4, s5, s6, s7, s8, s9⟩
     go_simp
     with_reducible rfl
    rotate_left
    ·simp only [Act.put, sA, sB, sC, i64_w, i32_w]
     rfl
    refine take_ (i := 18) (N := some 116) (v := ?_) (a' := ?_) (bm 524287 51) rfl rfl (take_ofW HT_.out HW_.out (by kernel_rfl)) (fun _ _ _ h => h) (Or.inl ⟨by rfl, ?_⟩) hHeld ?_ ?_
    rotate_left
    ·rintro w' ⟨s0, s1, s2, s3, s4, s5, s6, s7, s8, s9⟩
     go_simp
     with_reducible rfl
    rotate_left
    ·simp only [Act.put, sA, sB, sC, i64_w, i32_w]
     rfl
    refine one_ (i := 19) (N := some 117) (bm 1048575 51) rfl rfl (one_of HT_.out (by kernel_rfl)) (by decide) (fun K hK => ?_)
    refine goes_ Try.func116 (by kernel_rfl) rfl #[.agg #[.int .i64 x.f0, .int .i64 x.f1, .slice A7 x.f2.length c7], .agg #[.int .i64 y.f0, .int .i64 y.f1, .slice B7 y.f2.length d7]] (by rfl) rfl rfl (by simp only [List.map_toArray, List.map_cons, List.map_nil]; rfl) ?_
    with_reducible refine (diff_alike.calls x.f0 x.f1 A7 c7 x.f2 y.f0 y.f1 B7 d7 y.f2 true _ (Kd.C_below HGX.out HBD.out) HLX.out (Kd.C_below HGY.out HBD.out) HLY.out HAK.out).mono ?_
    rintro e w9 ⟨rfl, hb9⟩
    refine ⟨_, rfl, ?_⟩
    have HB9 := Aside0.mk (below_step HBD.out hb9)
    have HN9 := Aside0.mk (Kd.N_below HND.out hb9)
    clear hb9
    refine hK.out _ _ ⟨((HB9.out.cell (World.block_lt_of_cell? w3 _ hx0)).trans hx0), ((HB9.out.cell (World.block_lt_of_cell? w3 _ hx1)).trans hx1), ((HB9.out.cell (World.block_lt_of_cell? w3 _ hx2)).trans hx2), ((HB9.out.cell (World.block_lt_of_cell? w3 _ hy0)).trans hy0), ((HB9.out.cell (World.block_lt_of_cell? w3 _ hy1)).trans hy1), ((HB9.out.cell (World.block_lt_of_cell? w3 _ hy2)).trans hy2), ((HB9.out.cell (World.block_lt_of_cell? w3 _ hr0)).trans hr0), ((HB9.out.cell (World.block_lt_of_cell? w3 _ hr1)).trans hr1), ((HB9.out.cell (World.block_lt_of_cell? w3 _ hr2)).trans hr2), ((HB9.out.cell (World.block_lt_of_cell? w3 _ hr3)).trans hr3)⟩ (fun hHeld => ?_)
    clear hK K
    refine norm_ (a' := ?_) ?_ ?_
    rotate_left
    ·show Act.put _ (some 117) _ = _
     simp only [Act.put, sA, sB, sC, i64_w, i32_w]
     rfl
    refine pure_ (i := 20) (N := some 118) (v := ?_) (a' := ?_) (bm 2097151 51) rfl rfl (any_of HT_.out (by kernel_rfl)) (fun _ _ _ h => h) (Or.inl ⟨by rfl, ?_⟩) ?_ ?_
    rotate_left
    ·intro w'
     go_simp
     with_reducible rfl
    rotate_left
    ·simp only [Act.put, sA, sB, sC, i64_w, i32_w]
     rfl
    refine pure_ (i := 21) (N := some 119) (v := ?_) (a' := ?_) (bm 4194303 51) rfl rfl (any_of HT_.out (by kernel_rfl)) (fun _ _ _ h => h) (Or.inl ⟨by rfl, ?_⟩) ?_ ?_
    rotate_left
    ·intro w'
     go_simp
     with_reducible rfl
    rotate_left
    ·simp only [Act.put, sA, sB, sC, i64_w, i32_w]
     rfl
    refine pure_ (i := 22) (N := some 120) (v := ?_) (a' := ?_) (bm 8388607 51) rfl rfl (any_of HT_.out (by kernel_rfl)) (fun _ _ _ h => h) (Or.inl ⟨by rfl, ?_⟩) ?_ ?_
    rotate_left
    ·intro w'
     go_simp
     with_reducible rfl
    rotate_left
    ·simp only [Act.put, sA, sB, sC, i64_w, i32_w]
     rfl
    refine pure_ (i := 23) (N := some 121) (v := ?_) (a' := ?_) (bm 16777215 51) rfl rfl (any_of HT_.out (by kernel_rfl)) (fun _ _ _ h => h) (Or.inl ⟨by rfl, ?_⟩) ?_ ?_
    rotate_left
    ·intro w'
     go_simp
     with_reducible rfl
    rotate_left
    ·simp only [Act.put, sA, sB, sC, i64_w, i32_w]
     rfl
    refine pure_ (i := 24) (N := some 122) (v := ?_) (a' := ?_) (bm 33554431 51) rfl rfl (any_of HT_.out (by kernel_rfl)) (fun _ _ _ h => h) (Or.inl ⟨by rfl, ?_⟩) ?_ ?_
    rotate_left
    ·intro w'
     go_simp
     with_reducible rfl
    rotate_left
    ·simp only [Act.put, sA, sB, sC, i64_w, i32_w]
     rfl
    refine pure_ (i := 26) (N := some 124) (v := ?_) (a' := ?_) (bm 100663295 51) rfl rfl (any_of HT_.out (by kernel_rfl)) (fun _ _ _ h => h) (Or.inl ⟨by rfl, ?_⟩) ?_ ?_
    rotate_left
    ·intro w'
     go_simp
     with_reducible rfl
    rotate_left
    ·simp only [Act.put, sA, sB, sC, i64_w, i32_w]
     rfl
    refine pure_ (i := 29) (N := some 127) (v := ?_) (a' := ?_) (bm 637534207 51) rfl rfl (any_of HT_.out (by kernel_rfl)) (fun _ _ _ h => h) (Or.inl ⟨by rfl, ?_⟩) ?_ ?_
    rotate_left
    ·intro w'
     go_simp
     with_reducible rfl
    rotate_left
    ·simp only [Act.put, sA, sB, sC, i64_w, i32_w]
     rfl
    refine pure_ (i := 30) (N := some 128) (v := ?_) (a' := ?_) (bm 1711276031 51) rfl rfl (any_of HT_.out (by kernel_rfl)) (fun _ _ _ h => h) (Or.inl ⟨by rfl, ?_⟩) ?_ ?_
    rotate_left
    ·intro w'
     go_simp
     with_reducible rfl
    rotate_left
    ·simp only [Act.put, sA, sB, sC, i64_w, i32_w]
     rfl
    refine pure_ (i := 31) (N := some 129) (v := ?_) (a' := ?_) (bm 3858759679 51) rfl rfl (any_of HT_.out (by kernel_rfl)) (fun _ _ _ h => h) (Or.inl ⟨by rfl, ?_⟩) ?_ ?_
    rotate_left
    ·intro w'
     go_simp
     with_reducible rfl
    rotate_left
    ·simp only [Act.put, sA, sB, sC, i64_w, i32_w]
     rfl
    refine pure_ (i := 32) (N := some 130) (v := ?_) (a' := ?_) (bm 8153726975 51) rfl rfl (any_of HT_.out (by kernel_rfl)) (fun _ _ _ h => h) (Or.inl ⟨by rfl, ?_⟩) ?_ ?_
    rotate_left
    ·intro w'
     go_simp
     with_reducible rfl
    rotate_left
    ·simp only [Act.put, sA, sB, sC, i64_w, i32_w]
     rfl
    refine pure_ (i := 34) (N := some 132) (v := ?_) (a' := ?_) (bm 25333596159 51) rfl rfl (any_of HT_.out (by kernel_rfl)) (fun _ _ _ h => h) (Or.inl ⟨by rfl, ?_⟩) ?_ ?_
    rotate_left
    ·intro w'
     go_simp
     with_reducible rfl
    rotate_left
    ·simp only [Act.put, sA, sB, sC, i64_w, i32_w]
     rfl
    refine pure_ (i := 35) (N := some 133) (v := ?_) (a' := ?_) (bm 59693334527 51) rfl rfl (any_of HT_.out (by kernel_rfl)) (fun _ _ _ h => h) (Or.inl ⟨by rfl, ?_⟩) ?_ ?_
    rotate_left
    ·intro w'
     go_simp
     with_reducible rfl
    rotate_left
    ·simp only [Act.put, sA, sB, sC, i64_w, i32_w]
     rfl
    refine pure_ (i := 38) (N := some 136) (v := ?_) (a' := ?_) (bm 334571241471 51) rfl rfl (any_of HT_.out (by kernel_rfl)) (fun _ _ _ h => h) (Or.inl ⟨by rfl, ?_⟩) ?_ ?_
    rotate_left
    ·intro w'
     go_simp
     with_reducible rfl
    rotate_left
    ·simp only [Act.put, sA, sB, sC, i64_w, i32_w]
     rfl
    refine pure_ (i := 39) (N := some 137) (v := ?_) (a' := ?_) (bm 884327055359 51) rfl rfl (any_of HT_.out (by kernel_rfl)) (fun _ _ _ h => h) (Or.inl ⟨by rfl, ?_⟩) ?_ ?_
    rotate_left
    ·intro w'
     go_simp
     with_reducible rfl
    rotate_left
    ·simp only [Act.put, sA, sB, sC, i64_w, i32_w]
     rfl
    refine pure_ (i := 40) (N := some 138) (v := ?_) (a' := ?_) (bm 1983838683135 51) rfl rfl (any_of HT_.out (by kernel_rfl)) (fun _ _ _ h => h) (Or.inl ⟨by rfl, ?_⟩) ?_ ?_
    rotate_left
    ·intro w'
     go_simp
     with_reducible rfl
    rotate_left
    ·simp only [Act.put, sA, sB, sC, i64_w, i32_w]
     rfl
    refine pure_ (i := 42) (N := some 140) (v := ?_) (a' := ?_) (bm 6381885194239 51) rfl rfl (any_of HT_.out (by kernel_rfl)) (fun _ _ _ h => h) (Or.inl ⟨by rfl, ?_⟩) ?_ ?_
    rotate_left
    ·intro w'
     go_simp
     with_reducible rfl
    rotate_left
    ·simp only [Act.put, sA, sB, sC, i64_w, i32_w]
     rfl
    refine pure_ (i := 43) (N := some 141) (v := ?_) (a' := ?_) (bm 15177978216447 51) rfl rfl (any_of HT_.out (by kernel_rfl)) (fun _ _ _ h => h) (Or.inl ⟨by rfl, ?_⟩) ?_ ?_
    rotate_left
    ·intro w'
     go_simp
     with_reducible rfl
    rotate_left
    ·simp only [Act.put, sA, sB, sC, i64_w, i32_w]
     rfl
    refine pure_ (i := 44) (N := some 142) (v := ?_) (a' := ?_) (bm 32770164260863 51) rfl rfl (any_of HT_.out (by kernel_rfl)) (fun _ _ _ h => h) (Or.inl ⟨by rfl, ?_⟩) ?_ ?_
    rotate_left
    ·intro w'
     go_simp
     with_reducible rfl
    rotate_left
    ·simp only [Act.put, sA, sB, sC, i64_w, i32_w]
     rfl
    refine take_ (i := 25) (N := some 123) (v := ?_) (a' := ?_) (bm 32770197815295 51) rfl rfl (take_ofW HT_.out HW_.out (by kernel_rfl)) (fun _ _ _ h => h) (Or.inl ⟨by rfl, ?_⟩) hHeld ?_ ?_
    rotate_left
    ·rintro w' ⟨s0, s1, s2, s3, s4, s5, s6, s7, s8, s9⟩
     go_simp
     with_reducible rfl
    rotate_left
    ·simp only [Act.put, sA, sB, sC, i64_w, i32_w]
     rfl
    refine pure_ (i := 27) (N := some 125) (v := ?_) (a' := ?_) (bm 32770332033023 51) rfl rfl (any_of HT_.out (by kernel_rfl)) (fun _ _ _ h => h) (Or.inl ⟨by rfl, ?_⟩) ?_ ?_
    rotate_left
    ·intro w'
     go_simp
     with_reducible rfl
    rotate_left
    ·simp only [Act.put, sA, sB, sC, i64_w, i32_w]
     rfl
    refine take_ (i := 28) (N := some 126) (v := ?_) (a' := ?_) (bm 32770600468479 51) rfl rfl (take_ofW HT_.out HW_.out (by kernel_rfl)) (fun _ _ _ h => h) (Or.inl ⟨by rfl, ?_⟩) hHeld ?_ ?_
    rotate_left
    ·rintro w' ⟨s0, s1, s2, s3, s4, s5, s6, s7, s8, s9⟩
     go_simp
     with_reducible rfl
    rotate_left
    ·simp only [Act.put, sA, sB, sC, i64_w, i32_w]
     rfl
    refine take_ (i := 33) (N := some 131) (v := ?_) (a' := ?_) (bm 32779190403071 51) rfl rfl (take_ofW HT_.out HW_.out (by kernel_rfl)) (fun _ _ _ h => h) (Or.inl ⟨by rfl, ?_⟩) hHeld ?_ ?_
    rotate_left
    ·rintro w' ⟨s0, s1, s2, s3, s4, s5, s6, s7, s8, s9⟩
     go_simp
     with_reducible rfl
    rotate_left
    ·simp only [Act.put, sA, sB, sC, i64_w, i32_w]
     rfl
    refine pure_ (i := 36) (N := some 134) (v := ?_) (a' := ?_) (bm 32847909879807 51) rfl rfl (any_of HT_.out (by kernel_rfl)) (fun _ _ _ h => h) (Or.inl ⟨by rfl, ?_⟩) ?_ ?_
    rotate_left
    ·intro w'
     go_simp
     with_reducible rfl
    rotate_left
    ·simp only [Act.put, sA, sB, sC, i64_w, i32_w]
     rfl
    refine take_ (i := 37) (N := some 135) (v := ?_) (a' := ?_) (bm 32985348833279 51) rfl rfl (take_ofW HT_.out HW_.out (by kernel_rfl)) (fun _ _ _ h => h) (Or.inl ⟨by rfl, ?_⟩) hHeld ?_ ?_
    rotate_left
    ·rintro w' ⟨s0, s1, s2, s3, s4, s5, s6, s7, s8, s9⟩
     go_simp
     with_reducible rfl
    rotate_left
    ·simp only [Act.put, sA, sB, sC, i64_w, i32_w]
     rfl
    refine take_ (i := 41) (N := some 139) (v := ?_) (a' := ?_) (bm 35184372088831 51) rfl rfl (take_ofW HT_.out HW_.out (by kernel_rfl)) (fun _ _ _ h => h) (Or.inl ⟨by rfl, ?_⟩) hHeld ?_ ?_
    rotate_left
    ·rintro w' ⟨s0, s1, s2, s3, s4, s5, s6, s7, s8, s9⟩
     go_simp
     with_reducible rfl
    rotate_left
    ·simp only [Act.put, sA, sB, sC, i64_w, i32_w]
     rfl
    refine take_ (i := 45) (N := some 143) (v := ?_) (a' := ?_) (bm 70368744177663 51) rfl rfl (take_ofW HT_.out HW_.out (by kernel_rfl)) (fun _ _ _ h => h) (Or.inl ⟨by rfl, ?_⟩) hHeld ?_ ?_
    rotate_left
    ·rintro w' ⟨s0, s1, s2, s3, s4, s5, s6, s7, s8, s9⟩
     go_simp
     with_reducible rfl
    rotate_left
    ·simp only [Act.put, sA, sB, sC, i64_w, i32_w]
     rfl
    refine one_ (i := 46) (N := some 144) (bm 140737488355327 51) rfl rfl (one_of HT_.out (by kernel_rfl)) (by decide) (fun K hK => ?_)
    refine goes_ Try.func117 (by kernel_rfl) rfl #[.agg #[.int .i64 x.f0, .int .i64 x.f1, .slice A7 x.f2.length c7], .agg #[.int .i64 y.f0, .int .i64 y.f1, .slice B7 y.f2.length d7]] (by rfl) rfl rfl (by simp only [List.map_toArray, List.map_cons, List.map_nil]; rfl) ?_
    with_reducible refine (diff_price.calls k x.f0 x.f1 A7 c7 x.f2 y.f0 y.f1 B7 d7 y.f2 p _ (Kd.C_below HGX.out HB9.out) HLX.out (Kd.C_below HGY.out HB9.out) HLY.out HPR.out).mono ?_
    rintro e w10 ⟨rfl, hb10⟩
    refine ⟨_, rfl, ?_⟩
    have HB10 := Aside0.mk (below_step HB9.out hb10)
    have HN10 := Aside0.mk (Kd.N_below HN9.out hb10)
    clear hb10
    refine hK.out _ _ ⟨((HB10.out.cell (World.block_lt_of_cell? w3 _ hx0)).trans hx0), ((HB10.out.cell (World.block_lt_of_cell? w3 _ hx1)).trans hx1), ((HB10.out.cell (World.block_lt_of_cell? w3 _ hx2)).trans hx2), ((HB10.out.cell (World.block_lt_of_cell? w3 _ hy0)).trans hy0), ((HB10.out.cell (World.block_lt_of_cell? w3 _ hy1)).trans hy1), ((HB10.out.cell (World.block_lt_of_cell? w3 _ hy2)).trans hy2), ((HB10.out.cell (World.block_lt_of_cell? w3 _ hr0)).trans hr0), ((HB10.out.cell (World.block_lt_of_cell? w3 _ hr1)).trans hr1), ((HB10.out.cell (World.block_lt_of_cell? w3 _ hr2)).trans hr2), ((HB10.out.cell (World.block_lt_of_cell? w3 _ hr3)).trans hr3)⟩ (fun hHeld => ?_)
    clear hK K
    refine norm_ (a' := ?_) ?_ ?_
    rotate_left
    ·show Act.put _ (some 144) _ = _
     simp only [Act.put, sA, sB, sC, i64_w, i32_w]
     rfl
    refine pure_ (i := 47) (N := some 145) (v := ?_) (a' := ?_) (bm 281474976710655 51) rfl rfl (any_of HT_.out (by kernel_rfl)) (fun _ _ _ h => h) (Or.inl ⟨by rfl, ?_⟩) ?_ ?_
    rotate_left
    ·intro w'
     go_simp
     with_reducible rfl
    rotate_left
    ·simp only [Act.put, sA, sB, sC, i64_w, i32_w]
     rfl
    refine pure_ (i := 48) (N := some 146) (v := ?_) (a' := ?_) (bm 562949953421311 51) rfl rfl (any_of HT_.out (by kernel_rfl)) (fun _ _ _ h => h) (Or.inl ⟨by rfl, ?_⟩) ?_ ?_
    rotate_left
    ·intro w'
     go_simp
     with_reducible rfl
    rotate_left
    ·simp only [Act.put, sA, sB, sC, i64_w, i32_w]
     rfl
    refine pure_ (i := 49) (N := some 147) (v := ?_) (a' := ?_) (bm 1125899906842623 51) rfl rfl (any_of HT_.out (by kernel_rfl)) (fun _ _ _ h => h) (Or.inl ⟨by rfl, ?_⟩) ?_ ?_
    rotate_left
    ·intro w'
     go_simp
     with_reducible rfl
    rotate_left
    ·simp only [Act.put, sA, sB, sC, i64_w, i32_w]
     rfl
    refine pure_ (i := 50) (N := some 97) (v := ?_) (a' := ?_) (bm 2251799813685247 51) rfl rfl (any_of HT_.out (by kernel_rfl)) (fun _ _ _ h => h) (Or.inl ⟨by rfl, ?_⟩) ?_ ?_
    rotate_left
    ·intro w'
     go_simp
     with_reducible rfl
    rotate_left
    ·simp only [Act.put, sA, sB, sC, i64_w, i32_w]
     rfl
    refine done_ (done_of HT_.out (by kernel_rfl)) ?_
    clear wi wj
    go_wp2
    go_meet
    case rel => exact ⟨by rw [← HQQ.out]; first | rfl | (congr 1; first | rfl | (rw [Bool.eq_iff_iff]; simp)), HN10, HB10⟩
  case rest =>
  obtain ⟨rfl, HN2, HBR2⟩ := hcut
  clear HN HBR
  have HN := HN2
  have HBR := HBR2
  clear HN2 HBR2
  have hL := HLQ.out
  have hm1 := HA3.out.2.2
  have hm2 := HB3.out.2.2
  have hi1 := HI.out.1
  have hi2 := HI.out.2.1
  cases q with
  | true =>
   as_aux_lemma =>
    rw [if_pos rfl] at hL
    have hij : i < a2.length ∧ j < b2.length := by
     have hq := HQ.out
     by_cases c : i < a2.length ∧ j < b2.length ∧ Alk x y
     ·exact ⟨c.1, c.2.1⟩
     ·rw [if_neg c] at hq; cases hq
    obtain ⟨ci, cj⟩ := hij
    obtain ⟨ch, hch, hL⟩ := Option.bind_eq_some_iff.1 hL
    have HCH := Aside0.mk hch
    have HLN := Aside0.mk hL
    clear hch hL HLQ HQ
    have HIX := Aside0.mk (show i + 1 ≤ a2.length ∧ j + 1 ≤ b2.length ∧ (out ++ [(⟨0, 1, ch, []⟩ : S70)]).length + gl ≤ 4194304 from ⟨by have := HI.out; omega, by have := HI.out; omega, by have := HI.out.2.2; rw [List.length_append]; show _ + 1 + gl ≤ _; omega⟩)
    have HBD := Aside0.mk (below_drew1 HBR.out)
    have HND := Aside0.mk (Kd.N_drew HN.out)
    clear HBR HN
    obtain ⟨ad, A7, c7, ea, hx0, hx1, hx2, hl2, hg2⟩ := at_T84 HA3.out.1 (i : Int) (by omega) (by omega)
    obtain ⟨bd, B7, d7, eb, hy0, hy1, hy2, hk2, hj2⟩ := at_T84 HB3.out.1 (j : Int) (by omega) (by omega)
    subst ea
    subst eb
    rw [← HX.out] at hx0 hx1 hx2 hl2 hg2
    rw [← HY.out] at hy0 hy1 hy2 hk2 hj2
    simp only [Int.toNat_natCast] at hx0 hx1 hx2 hy0 hy1 hy2
    have HLX := Aside0.mk hl2
    have HLY := Aside0.mk hk2
    have HGX := Aside0.mk hg2
    have HGY := Aside0.mk hj2
    clear hl2 hk2 hg2 hj2
    have q1 : (i : Int) < (a2.length : Int) := by omega
    have q2 : (j : Int) < (b2.length : Int) := by omega
    have q3 : (a2.length : Int) ≤ 1048576 := by omega
    have q4 : (b2.length : Int) ≤ 1048576 := by omega
    clear hm1 hm2 hi1 hi2 ci cj hx0 hx1 hy0 hy1
    go_upto_region 14 with (fail)
    refine start_ (n := 16) (S := fun w' => w'.cell? ⟨(ad.add (i * 3)).block, (ad.add (i * 3)).off + 2, none⟩ = some (.slice A7 x.f2.length c7) ∧ w'.cell? ⟨(bd.add (j * 3)).block, (bd.add (j * 3)).off + 2, none⟩ = some (.slice B7 y.f2.length d7)) (ds := [13, 14]) #[false, false, false, false, false, false, false, false, false, false, false, false, false, false, false, false] (by kernel_rfl) rfl rfl ⟨((HBD.out.cell (World.block_lt_of_cell? w3 _ hx2)).trans hx2), ((HBD.out.cell (World.block_lt_of_cell? w3 _ hy2)).trans hy2)⟩ (fun hHeld => ?_)
    refine with_tabW raw100.tab14 raw100.bits14 (fun HT_ HW_ => ?_)
    refine pure_ (i := 0) (N := some 148) (v := ?_) (a' := ?_) (bm 1 16) rfl rfl (any_of HT_.out (by kernel_rfl)) (fun _ _ _ h => h) (Or.inl ⟨by rfl, ?_⟩) ?_ ?_
    rotate_left
    ·intro w'
     go_simp
     with_reducible rfl
    rotate_left
    ·simp only [Act.put, sA, sB, sC, i64_w, i32_w]
     rfl
    refine pure_ (i := 1) (N := some 149) (v := ?_) (a' := ?_) (bm 3 16) rfl rfl (any_of HT_.out (by kernel_rfl)) (fun _ _ _ h => h) (Or.inl ⟨by rfl, ?_⟩) ?_ ?_
    rotate_left
    ·intro w'
     go_simp
     with_reducible rfl
    rotate_left
    ·simp only [Act.put, sA, sB, sC, i64_w, i32_w]
     rfl
    refine pure_ (i := 2) (N := some 150) (v := ?_) (a' := ?_) (bm 7 16) rfl rfl (any_of HT_.out (by kernel_rfl)) (fun _ _ _ h => h) (Or.inl ⟨by rfl, ?_⟩) ?_ ?_
    rotate_left
    ·intro w'
     go_simp
     with_reducible rfl
    rotate_left
    ·simp only [Act.put, sA, sB, sC, i64_w, i32_w]
     rfl
    refine pure_ (i := 3) (N := some 151) (v := ?_) (a' := ?_) (bm 15 16) rfl rfl (any_of HT_.out (by kernel_rfl)) (fun _ _ _ h => h) (Or.inl ⟨by rfl, ?_⟩) ?_ ?_
    rotate_left
    ·intro w'
     go_simp
     with_reducible rfl
    rotate_left
    ·simp only [Act.put, sA, sB, sC, i64_w, i32_w]
     rfl
    refine pure_ (i := 4) (N := some 152) (v := ?_) (a' := ?_) (bm 31 16) rfl rfl (any_of HT_.out (by kernel_rfl)) (fun _ _ _ h => h) (Or.inl ⟨by rfl, ?_⟩) ?_ ?_
    rotate_left
    ·intro w'
     go_simp
     with_reducible rfl
    rotate_left
    ·simp only [Act.put, sA, sB, sC, i64_w, i32_w]
     rfl
    refine pure_ (i := 6) (N := some 154) (v := ?_) (a' := ?_) (bm 95 16) rfl rfl (any_of HT_.out (by kernel_rfl)) (fun _ _ _ h => h) (Or.inl ⟨by rfl, ?_⟩) ?_ ?_
    rotate_left
    ·intro w'
     go_simp
     with_reducible rfl
    rotate_left
    ·simp only [Act.put, sA, sB, sC, i64_w, i32_w]
     rfl
    refine pure_ (i := 7) (N := some 155) (v := ?_) (a' := ?_) (bm 223 16) rfl rfl (any_of HT_.out (by kernel_rfl)) (fun _ _ _ h => h) (Or.inl ⟨by rfl, ?_⟩) ?_ ?_
    rotate_left
    ·intro w'
     go_simp
     with_reducible rfl
    rotate_left
    ·simp only [Act.put, sA, sB, sC, i64_w, i32_w]
     rfl
    refine pure_ (i := 8) (N := some 156) (v := ?_) (a' := ?_) (bm 479 16) rfl rfl (any_of HT_.out (by kernel_rfl)) (fun _ _ _ h => h) (Or.inl ⟨by rfl, ?_⟩) ?_ ?_
    rotate_left
    ·intro w'
     go_simp
     with_reducible rfl
    rotate_left
    ·simp only [Act.put, sA, sB, sC, i64_w, i32_w]
     rfl
    refine pure_ (i := 9) (N := some 157) (v := ?_) (a' := ?_) (bm 991 16) rfl rfl (any_of HT_.out (by kernel_rfl)) (fun _ _ _ h => h) (Or.inl ⟨by rfl, ?_⟩) ?_ ?_
    rotate_left
    ·intro w'
     go_simp
     with_reducible rfl
    rotate_left
    ·simp only [Act.put, sA, sB, sC, i64_w, i32_w]
     rfl
    refine take_ (i := 5) (N := some 153) (v := ?_) (a' := ?_) (bm 1023 16) rfl rfl (take_ofW HT_.out HW_.out (by kernel_rfl)) (fun _ _ _ h => h) (Or.inl ⟨by rfl, ?_⟩) hHeld ?_ ?_
    rotate_left
    ·rintro w' ⟨s0, s1⟩
     go_simp
     with_reducible rfl
    rotate_left
    ·simp only [Act.put, sA, sB, sC, i64_w, i32_w]
     rfl
    refine take_ (i := 10) (N := some 158) (v := ?_) (a' := ?_) (bm 2047 16) rfl rfl (take_ofW HT_.out HW_.out (by kernel_rfl)) (fun _ _ _ h => h) (Or.inl ⟨by rfl, ?_⟩) hHeld ?_ ?_
    rotate_left
    ·rintro w' ⟨s0, s1⟩
     go_simp
     with_reducible rfl
    rotate_left
    ·simp only [Act.put, sA, sB, sC, i64_w, i32_w]
     rfl
    refine one_ (i := 11) (N := some 159) (bm 4095 16) rfl rfl (one_of HT_.out (by kernel_rfl)) (by decide) (fun K hK => ?_)
    refine goes_ Try.func67 (by kernel_rfl) rfl #[.slice A7 x.f2.length c7, .slice B7 y.f2.length d7] (by rfl) rfl rfl (by simp only [List.map_toArray, List.map_cons, List.map_nil]; rfl) ?_
    with_reducible refine (attr_Change.calls A7 c7 x.f2 B7 d7 y.f2 ch _ (Kd.C_below HGX.out HBD.out) HLX.out (Kd.C_below HGY.out HBD.out) HLY.out HCH.out).mono ?_
    rintro e w11 ⟨v11, rfl, hR11, hb11⟩
    refine ⟨_, rfl, ?_⟩
    obtain ⟨A11, n11, e11⟩ := Kd.R_slice hR11
    subst e11
    have HR11 := Aside0.mk hR11
    have HF11 := Aside0.mk (new_F hR11 HND.out)
    have HB11 := Aside0.mk (below_step HBD.out hb11)
    have HN11 := Aside0.mk (Kd.N_below HND.out hb11)
    clear hR11 hb11
    refine hK.out _ _ ⟨((HB11.out.cell (World.block_lt_of_cell? w3 _ hx2)).trans hx2), ((HB11.out.cell (World.block_lt_of_cell? w3 _ hy2)).trans hy2)⟩ (fun hHeld => ?_)
    clear hK K
    refine norm_ (a' := ?_) ?_ ?_
    rotate_left
    ·show Act.put _ (some 159) _ = _
     simp only [Act.put, sA, sB, sC, i64_w, i32_w]
     rfl
    refine pure_ (i := 12) (N := some 160) (v := ?_) (a' := ?_) (bm 8191 16) rfl rfl (any_of HT_.out (by kernel_rfl)) (fun _ _ _ h => h) (Or.inl ⟨by rfl, ?_⟩) ?_ ?_
    rotate_left
    ·intro w'
     go_simp
     with_reducible rfl
    rotate_left
    ·simp only [Act.put, sA, sB, sC, i64_w, i32_w]
     rfl
    refine last_ (i := 13) (N := some 161) (bm 16383 16) rfl rfl (one_of HT_.out (by kernel_rfl)) (by decide) (fun K hK => ?_)
    refine value_ (w1 := ?_) (v := ?_) (by rfl) rfl ?_ ?_
    rotate_left 2
    ·go_simp
     constructor
     ·rfl
     ·rfl
    refine hK.out _ _ ?_
    clear hK K
    refine norm_ (a' := ?_) ?_ ?_
    rotate_left
    ·show Act.put _ (some 161) _ = _
     simp only [Act.put, sA, sB, sC, i64_w, i32_w]
     rfl
    refine last_ (i := 14) (N := some 162) (bm 32767 16) rfl rfl (one_of HT_.out (by kernel_rfl)) (by decide) (fun K hK => ?_)
    refine Kd.N_append_step k70 (w0 := w3) w3.heap.size (by rfl) (.tmp 148) (.tmp 161) 64 70 (.agg #[.int .i64 0, .int .i64 0, .slice none 0 0, .slice none 0 0]) 64 rfl Try.underlying64 info70 rfl (by decide) (by decide) (.slice A10 out.length n10) out (⟨0, 1, ch, []⟩ : S70) [.int .i64 0, .int .i64 1, .slice A11 ch.length n11, .slice none 0 0] (fun _ => True) (fun k => some k ≠ (Value.slice A10 out.length n10).ownBlock) rfl rfl ?aP (fun _ hk => ⟨trivial, hk⟩) (fun _ _ => trivial) HN11.out HB11.out HB11.out.size ?aL ?_
    (case aP => exact k70_mkF _ _ (⟨0, 1, ch, []⟩ : S70) (Kd.R_reads' HR11.out).2.1 HF11.out (Nat.le_refl _) (Kd.F_nil _ _ _))
    (case aL => have := HI.out.2.2; omega)
    intro v14 w14 hN14 hb14 _ _
    have HN14 := Aside0.mk hN14
    have HB14 := Aside0.mk hb14
    clear hN14 hb14
    refine hK.out _ _ ?_
    clear hK K
    refine norm_ (a' := ?_) ?_ ?_
    rotate_left
    ·show Act.put _ (some 162) _ = _
     simp only [Act.put, sA, sB, sC, i64_w, i32_w]
     rfl
    refine pure_ (i := 15) (N := some 10) (v := ?_) (a' := ?_) (bm 65535 16) rfl rfl (any_of HT_.out (by kernel_rfl)) (fun _ _ _ h => h) (Or.inl ⟨by rfl, ?_⟩) ?_ ?_
    rotate_left
    ·intro w'
     go_simp
     with_reducible rfl
    rotate_left
    ·simp only [Act.put, sA, sB, sC, i64_w, i32_w]
     rfl
    refine done_ (done_of HT_.out (by kernel_rfl)) ?_
    go_wp2
    go_roundg gl
    case measure => omega
    case rel => exact ⟨i + 1, j + 1, _, by simp, by simp, HIX, HN14, HB14, HLN⟩
  | false =>
  rw [if_neg (by decide)] at hL
  obtain ⟨q2, hq2, hL⟩ := Option.bind_eq_some_iff.1 hL
  have HQ2 := Aside0.mk hq2
  have HLN := Aside0.mk hL
  clear hq2 hL HLQ HQ
  go_upto_region 16 with (fail)
  go_cut [167] (fun v167 wx => v167 = .bool q2 ∧ Aside0 (Kd.N k70 70 wx w3.heap.size (fun _ => True) (.slice A10 out.length n10) out) ∧ Aside0 (Below w3.heap.size w3 wx))
  case first =>
   as_aux_lemma =>
    have HBD := Aside0.mk (below_drew1 HBR.out)
    have HND := Aside0.mk (Kd.N_drew HN.out)
    have hq2 := HQ2.out
    clear HBR HN HQ2 HLN
    by_cases ci : i < a2.length
    rotate_left
    ·rw [if_neg ci] at hq2
     injection hq2 with hq2
     subst hq2
     have g1 : decide ((i : Int) < (a2.length : Int)) = false := decide_eq_false (by omega)
     have g1' : decide (i < a2.length) = false := decide_eq_false ci
     clear ci
     refine start_ (n := 30) (S := fun w' => True) (ds := []) #[false, false, false, false, false, false, false, false, false, false, false, false, false, false, false, false, false, false, false, false, false, false, false, false, false, false, false, false, false, false] (by kernel_rfl) rfl rfl trivial (fun hHeld => ?_)
     refine with_tabW raw100.tab16 raw100.bits16 (fun HT_ HW_ => ?_)
     refine pure_ (i := 0) (N := some 168) (v := ?_) (a' := ?_) (bm 1 30) rfl rfl (any_of HT_.out (by kernel_rfl)) (fun _ _ _ h => h) (Or.inl ⟨by rfl, ?_⟩) ?_ ?_
     rotate_left
     ·intro w'
      go_simp
      with_reducible rfl
     rotate_left
     ·simp only [Act.put, sA, sB, sC, i64_w, i32_w]
      rfl
     refine pure_ (i := 1) (N := some 169) (v := ?_) (a' := ?_) (bm 3 30) rfl rfl (any_of HT_.out (by kernel_rfl)) (fun _ _ _ h => h) (Or.inl ⟨by rfl, ?_⟩) ?_ ?_
     rotate_left
     ·intro w'
      go_simp
      with_reducible rfl
     rotate_left
     ·simp only [Act.put, sA, sB, sC, i64_w, i32_w]
      rfl
     refine pure_ (i := 2) (N := some 170) (v := ?_) (a' := ?_) (bm 7 30) rfl rfl (any_of HT_.out (by kernel_rfl)) (fun _ _ _ h => h) (Or.inl ⟨by rfl, ?_⟩) ?_ ?_
     rotate_left
     ·intro w'
      go_simp
      with_reducible rfl
     rotate_left
     ·simp only [Act.put, sA, sB, sC, i64_w, i32_w]
      rfl
     refine pure_ (i := 3) (N := some 171) (v := ?_) (a' := ?_) (bm 15 30) rfl rfl (any_of HT_.out (by kernel_rfl)) (fun _ _ _ h => h) (Or.inl ⟨by rfl, ?_⟩) ?_ ?_
     rotate_left
     ·intro w'
      go_simp
      with_reducible rfl
     rotate_left
     ·simp only [Act.put, sA, sB, sC, i64_w, i32_w]
      rfl
     refine pure_ (i := 4) (N := some 172) (v := ?_) (a' := ?_) (bm 31 30) rfl rfl (any_of HT_.out (by kernel_rfl)) (fun _ _ _ h => h) (Or.inl ⟨by rfl, ?_⟩) ?_ ?_
     rotate_left
     ·intro w'
      go_simp
      with_reducible rfl
     rotate_left
     ·simp only [Act.put, sA, sB, sC, i64_w, i32_w]
      rfl
     refine pure_ (i := 5) (N := some 173) (v := undef) (a' := ?_) (bm 63 30) rfl rfl (any_of HT_.out (by kernel_rfl)) (fun _ _ _ h => h) (Or.inr ⟨by rfl, rfl⟩) ?_ ?_
     rotate_left
     ·simp only [Act.put, sA, sB, sC, i64_w, i32_w]
      rfl
     refine pure_ (i := 6) (N := some 174) (v := undef) (a' := ?_) (bm 127 30) rfl rfl (any_of HT_.out (by kernel_rfl)) (fun _ _ _ h => h) (Or.inr ⟨by rfl, rfl⟩) ?_ ?_
     rotate_left
     ·simp only [Act.put, sA, sB, sC, i64_w, i32_w]
      rfl
     refine pure_ (i := 7) (N := some 175) (v := undef) (a' := ?_) (bm 255 30) rfl rfl (any_of HT_.out (by kernel_rfl)) (fun _ _ _ h => h) (Or.inr ⟨by rfl, rfl⟩) ?_ ?_
     rotate_left
     ·simp only [Act.put, sA, sB, sC, i64_w, i32_w]
      rfl
     refine pure_ (i := 8) (N := some 176) (v := undef) (a' := ?_) (bm 511 30) rfl rfl (any_of HT_.out (by kernel_rfl)) (fun _ _ _ h => h) (Or.inr ⟨by rfl, rfl⟩) ?_ ?_
     rotate_left
     ·simp only [Act.put, sA, sB, sC, i64_w, i32_w]
      rfl
     refine pure_ (i := 9) (N := some 177) (v := undef) (a' := ?_) (bm 1023 30) rfl rfl (any_of HT_.out (by kernel_rfl)) (fun _ _ _ h => h) (Or.inr ⟨by rfl, rfl⟩) ?_ ?_
     rotate_left
     ·simp only [Act.put, sA, sB, sC, i64_w, i32_w]
      rfl
     refine pure_ (i := 10) (N := some 178) (v := undef) (a' := ?_) (bm 2047 30) rfl rfl (any_of HT_.out (by kernel_rfl)) (fun _ _ _ h => h) (Or.inr ⟨by rfl, rfl⟩) ?_ ?_
     rotate_left
     ·simp only [Act.put, sA, sB, sC, i64_w, i32_w]
      rfl
     refine pure_ (i := 11) (N := some 179) (v := undef) (a' := ?_) (bm 4095 30) rfl rfl (any_of HT_.out (by kernel_rfl)) (fun _ _ _ h => h) (Or.inr ⟨by rfl, rfl⟩) ?_ ?_
     rotate_left
     ·simp only [Act.put, sA, sB, sC, i64_w, i32_w]
      rfl
     refine pure_ (i := 12) (N := some 180) (v := undef) (a' := ?_) (bm 8191 30) rfl rfl (any_of HT_.out (by kernel_rfl)) (fun _ _ _ h => h) (Or.inr ⟨by rfl, rfl⟩) ?_ ?_
     rotate_left
     ·simp only [Act.put, sA, sB, sC, i64_w, i32_w]
      rfl
     refine pure_ (i := 13) (N := some 181) (v := undef) (a' := ?_) (bm 16383 30) rfl rfl (any_of HT_.out (by kernel_rfl)) (fun _ _ _ h => h) (Or.inr ⟨by rfl, rfl⟩) ?_ ?_
     rotate_left
     ·simp only [Act.put, sA, sB, sC, i64_w, i32_w]
      rfl
     refine pure_ (i := 14) (N := some 182) (v := undef) (a' := ?_) (bm 32767 30) rfl rfl (any_of HT_.out (by kernel_rfl)) (fun _ _ _ h => h) (Or.inr ⟨by rfl, rfl⟩) ?_ ?_
     rotate_left
     ·simp only [Act.put, sA, sB, sC, i64_w, i32_w]
      rfl
     refine pure_ (i := 15) (N := some 183) (v := undef) (a' := ?_) (bm 65535 30) rfl rfl (any_of HT_.out (by kernel_rfl)) (fun _ _ _ h => h) (Or.inr ⟨by rfl, rfl⟩) ?_ ?_
     rotate_left
     ·simp only [Act.put, sA, sB, sC, i64_w, i32_w]
      rfl
     refine pure_ (i := 16) (N := some 184) (v := undef) (a' := ?_) (bm 131071 30) rfl rfl (any_of HT_.out (by kernel_rfl)) (fun _ _ _ h => h) (Or.inr ⟨by rfl, rfl⟩) ?_ ?_
     rotate_left
     ·simp only [Act.put, sA, sB, sC, i64_w, i32_w]
      rfl
     refine pure_ (i := 17) (N := some 185) (v := undef) (a' := ?_) (bm 262143 30) rfl rfl (any_of HT_.out (by kernel_rfl)) (fun _ _ _ h => h) (Or.inr ⟨by rfl, rfl⟩) ?_ ?_
     rotate_left
     ·simp only [Act.put, sA, sB, sC, i64_w, i32_w]
      rfl
     refine pure_ (i := 18) (N := some 186) (v := undef) (a' := ?_) (bm 524287 30) rfl rfl (any_of HT_.out (by kernel_rfl)) (fun _ _ _ h => h) (Or.inr ⟨by rfl, rfl⟩) ?_ ?_
     rotate_left
     ·simp only [Act.put, sA, sB, sC, i64_w, i32_w]
      rfl
     refine pure_ (i := 19) (N := some 187) (v := undef) (a' := ?_) (bm 1048575 30) rfl rfl (any_of HT_.out (by kernel_rfl)) (fun _ _ _ h => h) (Or.inr ⟨by rfl, rfl⟩) ?_ ?_
     rotate_left
     ·simp only [Act.put, sA, sB, sC, i64_w, i32_w]
      rfl
     refine pure_ (i := 20) (N := some 188) (v := undef) (a' := ?_) (bm 2097151 30) rfl rfl (any_of HT_.out (by kernel_rfl)) (fun _ _ _ h => h) (Or.inr ⟨by rfl, rfl⟩) ?_ ?_
     rotate_left
     ·simp only [Act.put, sA, sB, sC, i64_w, i32_w]
      rfl
     refine pure_ (i := 21) (N := some 189) (v := undef) (a' := ?_) (bm 4194303 30) rfl rfl (any_of HT_.out (by kernel_rfl)) (fun _ _ _ h => h) (Or.inr ⟨by rfl, rfl⟩) ?_ ?_
     rotate_left
     ·simp only [Act.put, sA, sB, sC, i64_w, i32_w]
      rfl
     refine pure_ (i := 22) (N := some 190) (v := undef) (a' := ?_) (bm 8388607 30) rfl rfl (any_of HT_.out (by kernel_rfl)) (fun _ _ _ h => h) (Or.inr ⟨by rfl, rfl⟩) ?_ ?_
     rotate_left
     ·simp only [Act.put, sA, sB, sC, i64_w, i32_w]
      rfl
     refine pure_ (i := 23) (N := some 191) (v := undef) (a' := ?_) (bm 16777215 30) rfl rfl (any_of HT_.out (by kernel_rfl)) (fun _ _ _ h => h) (Or.inr ⟨by rfl, rfl⟩) ?_ ?_
     rotate_left
     ·simp only [Act.put, sA, sB, sC, i64_w, i32_w]
      rfl
     refine pure_ (i := 24) (N := some 192) (v := undef) (a' := ?_) (bm 33554431 30) rfl rfl (any_of HT_.out (by kernel_rfl)) (fun _ _ _ h => h) (Or.inr ⟨by rfl, rfl⟩) ?_ ?_
     rotate_left
     ·simp only [Act.put, sA, sB, sC, i64_w, i32_w]
      rfl
     refine pure_ (i := 25) (N := some 193) (v := undef) (a' := ?_) (bm 67108863 30) rfl rfl (any_of HT_.out (by kernel_rfl)) (fun _ _ _ h => h) (Or.inr ⟨by rfl, rfl⟩) ?_ ?_
     rotate_left
     ·simp only [Act.put, sA, sB, sC, i64_w, i32_w]
      rfl
     refine pure_ (i := 26) (N := some 194) (v := undef) (a' := ?_) (bm 134217727 30) rfl rfl (any_of HT_.out (by kernel_rfl)) (fun _ _ _ h => h) (Or.inr ⟨by rfl, rfl⟩) ?_ ?_
     rotate_left
     ·simp only [Act.put, sA, sB, sC, i64_w, i32_w]
      rfl
     refine pure_ (i := 27) (N := some 195) (v := undef) (a' := ?_) (bm 268435455 30) rfl rfl (any_of HT_.out (by kernel_rfl)) (fun _ _ _ h => h) (Or.inr ⟨by rfl, rfl⟩) ?_ ?_
     rotate_left
     ·simp only [Act.put, sA, sB, sC, i64_w, i32_w]
      rfl
     refine pure_ (i := 28) (N := some 196) (v := ?_) (a' := ?_) (bm 536870911 30) rfl rfl (any_of HT_.out (by kernel_rfl)) (fun _ _ _ h => h) (Or.inl ⟨by rfl, ?_⟩) ?_ ?_
     rotate_left
     ·intro w'
      go_simp
      with_reducible rfl
     rotate_left
     ·simp only [Act.put, sA, sB, sC, i64_w, i32_w]
      rfl
     refine pure_ (i := 29) (N := some 167) (v := ?_) (a' := ?_) (bm 1073741823 30) rfl rfl (any_of HT_.out (by kernel_rfl)) (fun _ _ _ h => h) (Or.inl ⟨by rfl, ?_⟩) ?_ ?_
     rotate_left
     ·intro w'
      go_simp
      with_reducible rfl
     rotate_left
     ·simp only [Act.put, sA, sB, sC, i64_w, i32_w]
      rfl
     refine done_ (done_of HT_.out (by kernel_rfl)) ?_
     go_wp2
     go_meet
     case rel => exact ⟨rfl, HND, HBD⟩
    have g1 : decide ((i : Int) < (a2.length : Int)) = true := decide_eq_true (by omega)
    have g1' : decide (i < a2.length) = true := decide_eq_true ci
    rw [if_pos ci] at hq2
    by_cases cj : j = b2.length
    ·rw [if_pos cj] at hq2
     injection hq2 with hq2
     subst hq2
     have g2 : ((j : Int) == (b2.length : Int)) = true := beq_iff_eq.mpr (by omega)
     have g2' : (j == b2.length) = true := beq_iff_eq.mpr cj
     clear ci cj
     refine start_ (n := 30) (S := fun w' => True) (ds := []) #[false, false, false, false, false, false, false, false, false, false, false, false, false, false, false, false, false, false, false, false, false, false, false, false, false, false, false, false, false, false] (by kernel_rfl) rfl rfl trivial (fun hHeld => ?_)
     refine with_tabW raw100.tab16 raw100.bits16 (fun HT_ HW_ => ?_)
     refine pure_ (i := 0) (N := some 168) (v := ?_) (a' := ?_) (bm 1 30) rfl rfl (any_of HT_.out (by kernel_rfl)) (fun _ _ _ h => h) (Or.inl ⟨by rfl, ?_⟩) ?_ ?_
     rotate_left
     ·intro w'
      go_simp
      with_reducible rfl
     rotate_left
     ·simp only [Act.put, sA, sB, sC, i64_w, i32_w]
      rfl
     refine pure_ (i := 1) (N := some 169) (v := ?_) (a' := ?_) (bm 3 30) rfl rfl (any_of HT_.out (by kernel_rfl)) (fun _ _ _ h => h) (Or.inl ⟨by rfl, ?_⟩) ?_ ?_
     rotate_left
     ·intro w'
      go_simp
      with_reducible rfl
     rotate_left
     ·simp only [Act.put, sA, sB, sC, i64_w, i32_w]
      rfl
     refine pure_ (i := 2) (N := some 170) (v := ?_) (a' := ?_) (bm 7 30) rfl rfl (any_of HT_.out (by kernel_rfl)) (fun _ _ _ h => h) (Or.inl ⟨by rfl, ?_⟩) ?_ ?_
     rotate_left
     ·intro w'
      go_simp
      with_reducible rfl
     rotate_left
     ·simp only [Act.put, sA, sB, sC, i64_w, i32_w]
      rfl
     refine pure_ (i := 3) (N := some 171) (v := ?_) (a' := ?_) (bm 15 30) rfl rfl (any_of HT_.out (by kernel_rfl)) (fun _ _ _ h => h) (Or.inl ⟨by rfl, ?_⟩) ?_ ?_
     rotate_left
     ·intro w'
      go_simp
      with_reducible rfl
     rotate_left
     ·simp only [Act.put, sA, sB, sC, i64_w, i32_w]
      rfl
     refine pure_ (i := 4) (N := some 172) (v := ?_) (a' := ?_) (bm 31 30) rfl rfl (any_of HT_.out (by kernel_rfl)) (fun _ _ _ h => h) (Or.inl ⟨by rfl, ?_⟩) ?_ ?_
     rotate_left
     ·intro w'
      go_simp
      with_reducible rfl
     rotate_left
     ·simp only [Act.put, sA, sB, sC, i64_w, i32_w]
      rfl
     refine pure_ (i := 5) (N := some 173) (v := ?_) (a' := ?_) (bm 63 30) rfl rfl (any_of HT_.out (by kernel_rfl)) (fun _ _ _ h => h) (Or.inl ⟨by rfl, ?_⟩) ?_ ?_
     rotate_left
     ·intro w'
      go_simp
      with_reducible rfl
     rotate_left
     ·simp only [Act.put, sA, sB, sC, i64_w, i32_w]
      rfl
     refine pure_ (i := 6) (N := some 174) (v := ?_) (a' := ?_) (bm 127 30) rfl rfl (any_of HT_.out (by kernel_rfl)) (fun _ _ _ h => h) (Or.inl ⟨by rfl, ?_⟩) ?_ ?_
     rotate_left
     ·intro w'
      go_simp
      with_reducible rfl
     rotate_left
     ·simp only [Act.put, sA, sB, sC, i64_w, i32_w]
      rfl
     refine pure_ (i := 7) (N := some 175) (v := ?_) (a' := ?_) (bm 255 30) rfl rfl (any_of HT_.out (by kernel_rfl)) (fun _ _ _ h => h) (Or.inl ⟨by rfl, ?_⟩) ?_ ?_
     rotate_left
     ·intro w'
      go_simp
      with_reducible rfl
     rotate_left
     ·simp only [Act.put, sA, sB, sC, i64_w, i32_w]
      rfl
     refine pure_ (i := 8) (N := some 176) (v := ?_) (a' := ?_) (bm 511 30) rfl rfl (any_of HT_.out (by kernel_rfl)) (fun _ _ _ h => h) (Or.inl ⟨by rfl, ?_⟩) ?_ ?_
     rotate_left
     ·intro w'
      go_simp
      with_reducible rfl
     rotate_left
     ·simp only [Act.put, sA, sB, sC, i64_w, i32_w]
      rfl
     refine pure_ (i := 9) (N := some 177) (v := ?_) (a' := ?_) (bm 1023 30) rfl rfl (any_of HT_.out (by kernel_rfl)) (fun _ _ _ h => h) (Or.inl ⟨by rfl, ?_⟩) ?_ ?_
     rotate_left
     ·intro w'
      go_simp
      with_reducible rfl
     rotate_left
     ·simp only [Act.put, sA, sB, sC, i64_w, i32_w]
      rfl
     refine pure_ (i := 10) (N := some 178) (v := undef) (a' := ?_) (bm 2047 30) rfl rfl (any_of HT_.out (by kernel_rfl)) (fun _ _ _ h => h) (Or.inr ⟨by rfl, rfl⟩) ?_ ?_
     rotate_left
     ·simp only [Act.put, sA, sB, sC, i64_w, i32_w]
      rfl
     refine pure_ (i := 11) (N := some 179) (v := undef) (a' := ?_) (bm 4095 30) rfl rfl (any_of HT_.out (by kernel_rfl)) (fun _ _ _ h => h) (Or.inr ⟨by rfl, rfl⟩) ?_ ?_
     rotate_left
     ·simp only [Act.put, sA, sB, sC, i64_w, i32_w]
      rfl
     refine pure_ (i := 12) (N := some 180) (v := undef) (a' := ?_) (bm 8191 30) rfl rfl (any_of HT_.out (by kernel_rfl)) (fun _ _ _ h => h) (Or.inr ⟨by rfl, rfl⟩) ?_ ?_
     rotate_left
     ·simp only [Act.put, sA, sB, sC, i64_w, i32_w]
      rfl
     refine pure_ (i := 13) (N := some 181) (v := undef) (a' := ?_) (bm 16383 30) rfl rfl (any_of HT_.out (by kernel_rfl)) (fun _ _ _ h => h) (Or.inr ⟨by rfl, rfl⟩) ?_ ?_
     rotate_left
     ·simp only [Act.put, sA, sB, sC, i64_w, i32_w]
      rfl
     refine pure_ (i := 14) (N := some 182) (v := undef) (a' := ?_) (bm 32767 30) rfl rfl (any_of HT_.out (by kernel_rfl)) (fun _ _ _ h => h) (Or.inr ⟨by rfl, rfl⟩) ?_ ?_
     rotate_left
     ·simp only [Act.put, sA, sB, sC, i64_w, i32_w]
      rfl
     refine pure_ (i := 15) (N := some 183) (v := undef) (a' := ?_) (bm 65535 30) rfl rfl (any_of HT_.out (by kernel_rfl)) (fun _ _ _ h => h) (Or.inr ⟨by rfl, rfl⟩) ?_ ?_
     rotate_left
     ·simp only [Act.put, sA, sB, sC, i64_w, i32_w]
      rfl
     refine pure_ (i := 16) (N := some 184) (v := undef) (a' := ?_) (bm 131071 30) rfl rfl (any_of HT_.out (by kernel_rfl)) (fun _ _ _ h => h) (Or.inr ⟨by rfl, rfl⟩) ?_ ?_
     rotate_left
     ·simp only [Act.put, sA, sB, sC, i64_w, i32_w]
      rfl
     refine pure_ (i := 17) (N := some 185) (v := undef) (a' := ?_) (bm 262143 30) rfl rfl (any_of HT_.out (by kernel_rfl)) (fun _ _ _ h => h) (Or.inr ⟨by rfl, rfl⟩) ?_ ?_
     rotate_left
     ·simp only [Act.put, sA, sB, sC, i64_w, i32_w]
      rfl
     refine pure_ (i := 18) (N := some 186) (v := undef) (a' := ?_) (bm 524287 30) rfl rfl (any_of HT_.out (by kernel_rfl)) (fun _ _ _ h => h) (Or.inr ⟨by rfl, rfl⟩) ?_ ?_
     rotate_left
     ·simp only [Act.put, sA, sB, sC, i64_w, i32_w]
      rfl
     refine pure_ (i := 19) (N := some 187) (v := undef) (a' := ?_) (bm 1048575 30) rfl rfl (any_of HT_.out (by kernel_rfl)) (fun _ _ _ h => h) (Or.inr ⟨by rfl, rfl⟩) ?_ ?_
     rotate_left
     ·simp only [Act.put, sA, sB, sC, i64_w, i32_w]
      rfl
     refine pure_ (i := 20) (N := some 188) (v := undef) (a' := ?_) (bm 2097151 30) rfl rfl (any_of HT_.out (by kernel_rfl)) (fun _ _ _ h => h) (Or.inr ⟨by rfl, rfl⟩) ?_ ?_
     rotate_left
     ·simp only [Act.put, sA, sB, sC, i64_w, i32_w]
      rfl
     refine pure_ (i := 21) (N := some 189) (v := undef) (a' := ?_) (bm 4194303 30) rfl rfl (any_of HT_.out (by kernel_rfl)) (fun _ _ _ h => h) (Or.inr ⟨by rfl, rfl⟩) ?_ ?_
     rotate_left
     ·simp only [Act.put, sA, sB, sC, i64_w, i32_w]
      rfl
     refine pure_ (i := 22) (N := some 190) (v := undef) (a' := ?_) (bm 8388607 30) rfl rfl (any_of HT_.out (by kernel_rfl)) (fun _ _ _ h => h) (Or.inr ⟨by rfl, rfl⟩) ?_ ?_
     rotate_left
     ·simp only [Act.put, sA, sB, sC, i64_w, i32_w]
      rfl
     refine pure_ (i := 23) (N := some 191) (v := undef) (a' := ?_) (bm 16777215 30) rfl rfl (any_of HT_.out (by kernel_rfl)) (fun _ _ _ h => h) (Or.inr ⟨by rfl, rfl⟩) ?_ ?_
     rotate_left
     ·simp only [Act.put, sA, sB, sC, i64_w, i32_w]
      rfl
     refine pure_ (i := 24) (N := some 192) (v := undef) (a' := ?_) (bm 33554431 30) rfl rfl (any_of HT_.out (by kernel_rfl)) (fun _ _ _ h => h) (Or.inr ⟨by rfl, rfl⟩) ?_ ?_
     rotate_left
     ·simp only [Act.put, sA, sB, sC, i64_w, i32_w]
      rfl
     refine pure_ (i := 25) (N := some 193) (v := undef) (a' := ?_) (bm 67108863 30) rfl rfl (any_of HT_.out (by kernel_rfl)) (fun _ _ _ h => h) (Or.inr ⟨by rfl, rfl⟩) ?_ ?_
     rotate_left
     ·simp only [Act.put, sA, sB, sC, i64_w, i32_w]
      rfl
     refine pure_ (i := 26) (N := some 194) (v := undef) (a' := ?_) (bm 134217727 30) rfl rfl (any_of HT_.out (by kernel_rfl)) (fun _ _ _ h => h) (Or.inr ⟨by rfl, rfl⟩) ?_ ?_
     rotate_left
     ·simp only [Act.put, sA, sB, sC, i64_w, i32_w]
      rfl
     refine pure_ (i := 27) (N := some 195) (v := ?_) (a' := ?_) (bm 268435455 30) rfl rfl (any_of HT_.out (by kernel_rfl)) (fun _ _ _ h => h) (Or.inl ⟨by rfl, ?_⟩) ?_ ?_
     rotate_left
     ·intro w'
      go_simp
      with_reducible rfl
     rotate_left
     ·simp only [Act.put, sA, sB, sC, i64_w, i32_w]
      rfl
     refine pure_ (i := 28) (N := some 196) (v := ?_) (a' := ?_) (bm 536870911 30) rfl rfl (any_of HT_.out (by kernel_rfl)) (fun _ _ _ h => h) (Or.inl ⟨by rfl, ?_⟩) ?_ ?_
     rotate_left
     ·intro w'
      go_simp
      with_reducible rfl
     rotate_left
     ·simp only [Act.put, sA, sB, sC, i64_w, i32_w]
      rfl
     refine pure_ (i := 29) (N := some 167) (v := ?_) (a' := ?_) (bm 1073741823 30) rfl rfl (any_of HT_.out (by kernel_rfl)) (fun _ _ _ h => h) (Or.inl ⟨by rfl, ?_⟩) ?_ ?_
     rotate_left
     ·intro w'
      go_simp
      with_reducible rfl
     rotate_left
     ·simp only [Act.put, sA, sB, sC, i64_w, i32_w]
      rfl
     refine done_ (done_of HT_.out (by kernel_rfl)) ?_
     go_wp2
     go_meet
     case rel => exact ⟨rfl, HND, HBD⟩
    rw [if_neg cj] at hq2
    have g2 : ((j : Int) == (b2.length : Int)) = false := beq_eq_false_iff_ne.mpr (by omega)
    have g2' : (j == b2.length) = false := beq_eq_false_iff_ne.mpr cj
    obtain ⟨c1_, hc1, hq2⟩ := Option.bind_eq_some_iff.1 hq2
    obtain ⟨c2_, hc2, hq2⟩ := Option.bind_eq_some_iff.1 hq2
    injection hq2 with hq2
    have HQQ := Aside0.mk hq2
    obtain ⟨i1, hi1'⟩ : ∃ n : Nat, n = i + 1 := ⟨_, rfl⟩
    have wi : wrap64 ((i : Int) + 1) = (i1 : Int) := by rw [w64 (by omega) (by omega)]; omega
    rw [wi] at hc2
    obtain ⟨⟨_, k1, _, k2⟩, k3⟩ := cellT_some hc1
    obtain ⟨⟨_, k4, _, k5⟩, k6⟩ := cellT_some hc2
    obtain ⟨td, E8, e8, et, hr0, hle, hre⟩ := at_L7 HT3.out (i : Int) (Int.natCast_nonneg _) k1
    subst et
    obtain ⟨re, er, hr1⟩ := Kd.at_int hre (j : Int) (Int.natCast_nonneg _) k2
    subst er
    obtain ⟨td', F8, f8, et, hr2, hlf, hrf⟩ := at_L7 HT3.out (i1 : Int) (Int.natCast_nonneg _) k4
    obtain rfl : td = td' := Option.some.inj et
    obtain ⟨rf, ef, hr3⟩ := Kd.at_int hrf (j : Int) (Int.natCast_nonneg _) k5
    subst ef
    rw [k3] at hr1
    rw [k6] at hr3
    simp only [Int.toNat_natCast] at hr0 hr1 hr2 hr3
    have q1 : (i : Int) < (a2.length : Int) := by omega
    clear hc1 hc2 hq2 et hre hle hrf hlf k3 k6 hi1' hm1 hm2 hi1 hi2 ci cj
    refine start_ (n := 30) (S := fun w' => w'.cell? (td.add i) = some (.slice (some re) (rd_L7 t (i : Int)).length e8) ∧ w'.cell? (re.add j) = some (.int .i64 c1_) ∧ w'.cell? (td.add i1) = some (.slice (some rf) (rd_L7 t (i1 : Int)).length f8) ∧ w'.cell? (rf.add j) = some (.int .i64 c2_)) (ds := []) #[false, false, false, false, false, false, false, false, false, false, false, false, false, false, false, false, false, false, false, false, false, false, false, false, false, false, false, false, false, false] (by kernel_rfl) rfl rfl ⟨((HBD.out.cell (World.block_lt_of_cell? w3 _ hr0)).trans hr0), ((HBD.out.cell (World.block_lt_of_cell? w3 _ hr1)).trans hr1), ((HBD.out.cell (World.block_lt_of_cell? w3 _ hr2)).trans hr2), ((HBD.out.cell (World.block_lt_of_cell? w3 _ hr3)).trans hr3)⟩ (fun hHeld => ?_)
    refine with_tabW raw100.tab16 raw100.bits16 (fun HT_ HW_ => ?_)
    refine pure_ (i := 0) (N := some 168) (v := ?_) (a' := ?_) (bm 1 30) rfl rfl (any_of HT_.out (by kernel_rfl)) (fun _ _ _ h => h) (Or.inl ⟨by rfl, ?_⟩) ?_ ?_
    rotate_left
    ·intro w'
     go_simp
     with_reducible rfl
    rotate_left
    ·simp only [Act.put, sA, sB, sC, i64_w, i32_w]
     rfl
    refine pure_ (i := 1) (N := some 169) (v := ?_) (a' := ?_) (bm 3 30) rfl rfl (any_of HT_.out (by kernel_rfl)) (fun _ _ _ h => h) (Or.inl ⟨by rfl, ?_⟩) ?_ ?_
    rotate_left
    ·intro w'
     go_simp
     with_reducible rfl
    rotate_left
    ·simp only [Act.put, sA, sB, sC, i64_w, i32_w]
     rfl
    refine pure_ (i := 2) (N := some 170) (v := ?_) (a' := ?_) (bm 7 30) rfl rfl (any_of HT_.out (by kernel_rfl)) (fun _ _ _ h => h) (Or.inl ⟨by rfl, ?_⟩) ?_ ?_
    rotate_left
    ·intro w'
     go_simp
     with_reducible rfl
    rotate_left
    ·simp only [Act.put, sA, sB, sC, i64_w, i32_w]
     rfl
    refine pure_ (i := 3) (N := some 171) (v := ?_) (a' := ?_) (bm 15 30) rfl rfl (any_of HT_.out (by kernel_rfl)) (fun _ _ _ h => h) (Or.inl ⟨by rfl, ?_⟩) ?_ ?_
    rotate_left
    ·intro w'
     go_simp
     with_reducible rfl
    rotate_left
    ·simp only [Act.put, sA, sB, sC, i64_w, i32_w]
     rfl
    refine pure_ (i := 4) (N := some 172) (v := ?_) (a' := ?_) (bm 31 30) rfl rfl (any_of HT_.out (by kernel_rfl)) (fun _ _ _ h => h) (Or.inl ⟨by rfl, ?_⟩) ?_ ?_
    rotate_left
    ·intro w'
     go_simp
     with_reducible rfl
    rotate_left
    ·simp only [Act.put, sA, sB, sC, i64_w, i32_w]
     rfl
    refine pure_ (i := 5) (N := some 173) (v := ?_) (a' := ?_) (bm 63 30) rfl rfl (any_of HT_.out (by kernel_rfl)) (fun _ _ _ h => h) (Or.inl ⟨by rfl, ?_⟩) ?_ ?_
    rotate_left
    ·intro w'
     go_simp
     with_reducible rfl
    rotate_left
    ·simp only [Act.put, sA, sB, sC, i64_w, i32_w]
     rfl
    refine pure_ (i := 6) (N := some 174) (v := ?_) (a' := ?_) (bm 127 30) rfl rfl (any_of HT_.out (by kernel_rfl)) (fun _ _ _ h => h) (Or.inl ⟨by rfl, ?_⟩) ?_ ?_
    rotate_left
    ·intro w'
     go_simp
     with_reducible rfl
    rotate_left
    ·simp only [Act.put, sA, sB, sC, i64_w, i32_w]
     rfl
    refine pure_ (i := 7) (N := some 175) (v := ?_) (a' := ?_) (bm 255 30) rfl rfl (any_of HT_.out (by kernel_rfl)) (fun _ _ _ h => h) (Or.inl ⟨by rfl, ?_⟩) ?_ ?_
    rotate_left
    ·intro w'
     go_simp
     with_reducible rfl
    rotate_left
    ·simp only [Act.put, sA, sB, sC, i64_w, i32_w]
     rfl
    refine pure_ (i := 8) (N := some 176) (v := ?_) (a' := ?_) (bm 511 30) rfl rfl (any_of HT_.out (by kernel_rfl)) (fun _ _ _ h => h) (Or.inl ⟨by rfl, ?_⟩) ?_ ?_
    rotate_left
    ·intro w'
     go_simp
     with_reducible rfl
    rotate_left
    ·simp only [Act.put, sA, sB, sC, i64_w, i32_w]
     rfl
    refine pure_ (i := 9) (N := some 177) (v := ?_) (a' := ?_) (bm 1023 30) rfl rfl (any_of HT_.out (by kernel_rfl)) (fun _ _ _ h => h) (Or.inl ⟨by rfl, ?_⟩) ?_ ?_
    rotate_left
    ·intro w'
     go_simp
     with_reducible rfl
    rotate_left
    ·simp only [Act.put, sA, sB, sC, i64_w, i32_w]
     rfl
    refine pure_ (i := 10) (N := some 178) (v := ?_) (a' := ?_) (bm 2047 30) rfl rfl (any_of HT_.out (by kernel_rfl)) (fun _ _ _ h => h) (Or.inl ⟨by rfl, ?_⟩) ?_ ?_
    rotate_left
    ·intro w'
     go_simp
     with_reducible rfl
    rotate_left
    ·simp only [Act.put, sA, sB, sC, i64_w, i32_w]
     rfl
    refine pure_ (i := 11) (N := some 179) (v := ?_) (a' := ?_) (bm 4095 30) rfl rfl (any_of HT_.out (by kernel_rfl)) (fun _ _ _ h => h) (Or.inl ⟨by rfl, ?_⟩) ?_ ?_
    rotate_left
    ·intro w'
     go_simp
     with_reducible rfl
    rotate_left
    ·simp only [Act.put, sA, sB, sC, i64_w, i32_w]
     rfl
    refine pure_ (i := 12) (N := some 180) (v := ?_) (a' := ?_) (bm 8191 30) rfl rfl (any_of HT_.out (by kernel_rfl)) (fun _ _ _ h => h) (Or.inl ⟨by rfl, ?_⟩) ?_ ?_
    rotate_left
    ·intro w'
     go_simp
     with_reducible rfl
    rotate_left
    ·simp only [Act.put, sA, sB, sC, i64_w, i32_w]
     rfl
    refine pure_ (i := 14) (N := some 182) (v := ?_) (a' := ?_) (bm 24575 30) rfl rfl (any_of HT_.out (by kernel_rfl)) (fun _ _ _ h => h) (Or.inl ⟨by rfl, ?_⟩) ?_ ?_
    rotate_left
    ·intro w'
     go_simp
     with_reducible rfl
    rotate_left
    ·simp only [Act.put, sA, sB, sC, i64_w, i32_w]
     rfl
    refine pure_ (i := 17) (N := some 185) (v := ?_) (a' := ?_) (bm 155647 30) rfl rfl (any_of HT_.out (by kernel_rfl)) (fun _ _ _ h => h) (Or.inl ⟨by rfl, ?_⟩) ?_ ?_
    rotate_left
    ·intro w'
     go_simp
     with_reducible rfl
    rotate_left
    ·simp only [Act.put, sA, sB, sC, i64_w, i32_w]
     rfl
    refine pure_ (i := 18) (N := some 186) (v := ?_) (a' := ?_) (bm 417791 30) rfl rfl (any_of HT_.out (by kernel_rfl)) (fun _ _ _ h => h) (Or.inl ⟨by rfl, ?_⟩) ?_ ?_
    rotate_left
    ·intro w'
     go_simp
     with_reducible rfl
    rotate_left
    ·simp only [Act.put, sA, sB, sC, i64_w, i32_w]
     rfl
    refine pure_ (i := 19) (N := some 187) (v := ?_) (a' := ?_) (bm 942079 30) rfl rfl (any_of HT_.out (by kernel_rfl)) (fun _ _ _ h => h) (Or.inl ⟨by rfl, ?_⟩) ?_ ?_
    rotate_left
    ·intro w'
     go_simp
     with_reducible rfl
    rotate_left
    ·simp only [Act.put, sA, sB, sC, i64_w, i32_w]
     rfl
    refine pure_ (i := 20) (N := some 188) (v := ?_) (a' := ?_) (bm 1990655 30) rfl rfl (any_of HT_.out (by kernel_rfl)) (fun _ _ _ h => h) (Or.inl ⟨by rfl, ?_⟩) ?_ ?_
    rotate_left
    ·intro w'
     go_simp
     with_reducible rfl
    rotate_left
    ·simp only [Act.put, sA, sB, sC, i64_w, i32_w]
     rfl
    refine pure_ (i := 22) (N := some 190) (v := ?_) (a' := ?_) (bm 6184959 30) rfl rfl (any_of HT_.out (by kernel_rfl)) (fun _ _ _ h => h) (Or.inl ⟨by rfl, ?_⟩) ?_ ?_
    rotate_left
    ·intro w'
     go_simp
     with_reducible rfl
    rotate_left
    ·simp only [Act.put, sA, sB, sC, i64_w, i32_w]
     rfl
    refine take_ (i := 13) (N := some 181) (v := ?_) (a' := ?_) (bm 6193151 30) rfl rfl (take_ofW HT_.out HW_.out (by kernel_rfl)) (fun _ _ _ h => h) (Or.inl ⟨by rfl, ?_⟩) hHeld ?_ ?_
    rotate_left
    ·rintro w' ⟨s0, s1, s2, s3⟩
     go_simp
     with_reducible rfl
    rotate_left
    ·simp only [Act.put, sA, sB, sC, i64_w, i32_w]
     rfl
    refine pure_ (i := 15) (N := some 183) (v := ?_) (a' := ?_) (bm 6225919 30) rfl rfl (any_of HT_.out (by kernel_rfl)) (fun _ _ _ h => h) (Or.inl ⟨by rfl, ?_⟩) ?_ ?_
    rotate_left
    ·intro w'
     go_simp
     with_reducible rfl
    rotate_left
    ·simp only [Act.put, sA, sB, sC, i64_w, i32_w]
     rfl
    refine take_ (i := 16) (N := some 184) (v := ?_) (a' := ?_) (bm 6291455 30) rfl rfl (take_ofW HT_.out HW_.out (by kernel_rfl)) (fun _ _ _ h => h) (Or.inl ⟨by rfl, ?_⟩) hHeld ?_ ?_
    rotate_left
    ·rintro w' ⟨s0, s1, s2, s3⟩
     go_simp
     with_reducible rfl
    rotate_left
    ·simp only [Act.put, sA, sB, sC, i64_w, i32_w]
     rfl
    refine take_ (i := 21) (N := some 189) (v := ?_) (a' := ?_) (bm 8388607 30) rfl rfl (take_ofW HT_.out HW_.out (by kernel_rfl)) (fun _ _ _ h => h) (Or.inl ⟨by rfl, ?_⟩) hHeld ?_ ?_
    rotate_left
    ·rintro w' ⟨s0, s1, s2, s3⟩
     go_simp
     with_reducible rfl
    rotate_left
    ·simp only [Act.put, sA, sB, sC, i64_w, i32_w]
     rfl
    refine pure_ (i := 23) (N := some 191) (v := ?_) (a' := ?_) (bm 16777215 30) rfl rfl (any_of HT_.out (by kernel_rfl)) (fun _ _ _ h => h) (Or.inl ⟨by rfl, ?_⟩) ?_ ?_
    rotate_left
    ·intro w'
     go_simp
     with_reducible rfl
    rotate_left
    ·simp only [Act.put, sA, sB, sC, i64_w, i32_w]
     rfl
    refine take_ (i := 24) (N := some 192) (v := ?_) (a' := ?_) (bm 33554431 30) rfl rfl (take_ofW HT_.out HW_.out (by kernel_rfl)) (fun _ _ _ h => h) (Or.inl ⟨by rfl, ?_⟩) hHeld ?_ ?_
    rotate_left
    ·rintro w' ⟨s0, s1, s2, s3⟩
     go_simp
     with_reducible rfl
    rotate_left
    ·simp only [Act.put, sA, sB, sC, i64_w, i32_w]
     rfl
    refine pure_ (i := 25) (N := some 193) (v := ?_) (a' := ?_) (bm 67108863 30) rfl rfl (any_of HT_.out (by kernel_rfl)) (fun _ _ _ h => h) (Or.inl ⟨by rfl, ?_⟩) ?_ ?_
    rotate_left
    ·intro w'
     go_simp
     with_reducible rfl
    rotate_left
    ·simp only [Act.put, sA, sB, sC, i64_w, i32_w]
     rfl
    refine pure_ (i := 26) (N := some 194) (v := ?_) (a' := ?_) (bm 134217727 30) rfl rfl (any_of HT_.out (by kernel_rfl)) (fun _ _ _ h => h) (Or.inl ⟨by rfl, ?_⟩) ?_ ?_
    rotate_left
    ·intro w'
     go_simp
     with_reducible rfl
    rotate_left
    ·simp only [Act.put, sA, sB, sC, i64_w, i32_w]
     rfl
    refine pure_ (i := 27) (N := some 195) (v := ?_) (a' := ?_) (bm 268435455 30) rfl rfl (any_of HT_.out (by kernel_rfl)) (fun _ _ _ h => h) (Or.inl ⟨by rfl, ?_⟩) ?_ ?_
    rotate_left
    ·intro w'
     go_simp
     with_reducible rfl
    rotate_left
    ·simp only [Act.put, sA, sB, sC, i64_w, i32_w]
     rfl
    refine pure_ (i := 28) (N := some 196) (v := ?_) (a' := ?_) (bm 536870911 30) rfl rfl (any_of HT_.out (by kernel_rfl)) (fun _ _ _ h => h) (Or.inl ⟨by rfl, ?_⟩) ?_ ?_
    rotate_left
    ·intro w'
     go_simp
     with_reducible rfl
    rotate_left
    ·simp only [Act.put, sA, sB, sC, i64_w, i32_w]
     rfl
    refine pure_ (i := 29) (N := some 167) (v := ?_) (a' := ?_) (bm 1073741823 30) rfl rfl (any_of HT_.out (by kernel_rfl)) (fun _ _ _ h => h) (Or.inl ⟨by rfl, ?_⟩) ?_ ?_
    rotate_left
    ·intro w'
     go_simp
     with_reducible rfl
    rotate_left
    ·simp only [Act.put, sA, sB, sC, i64_w, i32_w]
     rfl
    refine done_ (done_of HT_.out (by kernel_rfl)) ?_
    clear wi
    go_wp2
    go_meet
    case rel => exact ⟨by rw [← HQQ.out]; first | rfl | (congr 1; first | rfl | (rw [Bool.eq_iff_iff]; simp)), HND, HBD⟩
  case rest =>
  obtain ⟨rfl, HN2, HBR2⟩ := hcut
  clear HN HBR
  have HN := HN2
  have HBR := HBR2
  clear HN2 HBR2
  have hL := HLN.out
  clear HLN
  cases q2 with
  | true =>
   as_aux_lemma =>
    rw [if_pos rfl] at hL
    have HLN := Aside0.mk hL
    have ci : i < a2.length := by
     have hq := HQ2.out
     by_cases c : i < a2.length
     ·exact c
     ·rw [if_neg c] at hq; cases hq
    have q1 : (i : Int) < (a2.length : Int) := by omega
    have q3 : (a2.length : Int) ≤ 1048576 := by omega
    have HIX := Aside0.mk (show i + 1 ≤ a2.length ∧ j ≤ b2.length ∧ (out ++ [(⟨2, 1, [], []⟩ : S70)]).length + gl ≤ 4194304 from ⟨by have := HI.out; omega, by have := HI.out; omega, by have := HI.out.2.2; rw [List.length_append]; show _ + 1 + gl ≤ _; omega⟩)
    clear hL HQ2 hm1 hm2 hi1 hi2 ci
    go_wp2_with (((with_reducible refine gate_builtin (b := .append) (xs := #[.tmp 197, .tmp 199]) rfl ?_); at_builtin; refine Kd.N_append k70 (w0 := w3) w3.heap.size rfl (.tmp 197) (.tmp 199) 64 70 (.agg #[.int .i64 0, .int .i64 0, .slice none 0 0, .slice none 0 0]) 64 rfl Try.underlying64 info70 rfl (by decide) (by decide) (.slice A10 out.length n10) out (⟨2, 1, [], []⟩ : S70) [.int .i64 2, .int .i64 1, .slice none 0 0, .slice none 0 0] (fun _ => True) (fun k => some k ≠ (Value.slice A10 out.length n10).ownBlock) rfl rfl ?aP (fun _ hk => ⟨trivial, hk⟩) (fun _ _ => trivial) HN.out HBR.out HBR.out.size ?aL ?_; (case aP => exact k70_mkF _ _ (⟨2, 1, [], []⟩ : S70) (Nat.le_refl _) (Kd.F_nil _ _ _) (Nat.le_refl _) (Kd.F_nil _ _ _)); (case aL => have := HI.out.2.2; omega); intro v14 w14 hN14 hb14 _ _; have HN14 := Aside0.mk hN14; have HB14 := Aside0.mk hb14; clear hN14 hb14))
    go_roundg gl
    case measure => omega
    case rel => exact ⟨i + 1, j, _, by simp, rfl, HIX, HN14, HB14, HLN⟩
  | false =>
   rw [if_neg (by decide)] at hL
   have HLN := Aside0.mk hL
   have cj : j < b2.length := by
    have hc := HCC.out
    have hq := HQ2.out
    by_cases c : j < b2.length
    ·exact c
    ·rw [if_pos (show i < a2.length by omega), if_pos (show j = b2.length by omega)] at hq; cases hq
   clear hL HQ2
   have q2 : (j : Int) < (b2.length : Int) := by omega
   have q4 : (b2.length : Int) ≤ 1048576 := by omega
   have HIX := Aside0.mk (show i ≤ a2.length ∧ j + 1 ≤ b2.length ∧ (out ++ [(⟨1, 0, [], [y]⟩ : S70)]).length + gl ≤ 4194304 from ⟨by have := HI.out; omega, by have := HI.out; omega, by have := HI.out.2.2; rw [List.length_append]; show _ + 1 + gl ≤ _; omega⟩)
   obtain ⟨i084, hi084, _, hsz, _⟩ := info_parts info84
   have hlc := HB3.out.2.1
   obtain ⟨BQ, hBQ⟩ : ∃ A, A = (if c1 = j then B2 else B2.map (·.add (j * 3))) := ⟨_, rfl⟩
   have hcm : ∀ W : World, (Instr.slice 63 (.slice B2 b2.length c1) (some (.int .i64 (j : Int))) (some (.int .i64 ((j : Int) + 1))) none).run Try.prog W = .ok (.slice BQ 1 (c1 - j)) W := fun W => by
    have := cut_mid (P := Try.prog) 63 84 .i64 .i64 Try.underlying63 hi084 3 hsz B2 b2.length c1 (j : Int) ((j : Int) + 1) (by omega) (by omega) (by omega) hlc W
    rw [this, Int.toNat_natCast, show ((j : Int) + 1).toNat = j + 1 by omega, hBQ, Nat.add_sub_cancel_left]
   have HFY : Aside0 (Kd.F k84 wc (fun k => some k ≠ (Value.slice A10 out.length n10).ownBlock) BQ ([y] : List S84).length [y]) := ⟨by
    have h1 := Kd.F_take (m := j + 1) (old_F k84_heap HB3.out.1 HN.out HBR.out) (by omega)
    have h2 := Kd.F_cut (m := j) (c := c1) h1 (by rw [List.length_take]; omega) (by rw [List.length_take]; omega)
    rw [take_oneE b2 j cj, ← HY.out] at h2
    rw [hBQ]
    exact h2⟩
   have HL1 := Aside0.mk (show ([y] : List S84).length ≤ c1 - j by show 1 ≤ _; omega)
   clear hi084 hsz hlc hBQ hm1 hm2 hi1 hi2 cj
   go_wp2_with (((with_reducible refine gate_builtin (b := .append) (xs := #[.tmp 86, .tmp 93]) rfl ?_); at_builtin; refine Kd.N_append k70 (w0 := w3) w3.heap.size rfl (.tmp 86) (.tmp 93) 64 70 (.agg #[.int .i64 0, .int .i64 0, .slice none 0 0, .slice none 0 0]) 64 rfl Try.underlying64 info70 rfl (by decide) (by decide) (.slice A10 out.length n10) out (⟨1, 0, [], [y]⟩ : S70) [.int .i64 1, .int .i64 0, .slice none 0 0, .slice BQ 1 (c1 - j)] (fun _ => True) (fun k => some k ≠ (Value.slice A10 out.length n10).ownBlock) rfl rfl ?aP (fun _ hk => ⟨trivial, hk⟩) (fun _ _ => trivial) HN.out HBR.out HBR.out.size ?aL ?_; (case aP => exact k70_mkF _ _ (⟨1, 0, [], [y]⟩ : S70) (Nat.le_refl _) (Kd.F_nil _ _ _) HL1.out HFY.out); (case aL => have := HI.out.2.2; omega); intro v14 w14 hN14 hb14 _ _; have HN14 := Aside0.mk hN14; have HB14 := Aside0.mk hb14; clear hN14 hb14))
   go_roundg gl
   case measure => omega
   case rel => exact ⟨i, j + 1, _, rfl, by simp, HIX, HN14, HB14, HLN⟩
set_option maxRecDepth 100000 in
set_option maxHeartbeats 4000000 in
theorem flows_calls (k : Nat) (A0 : Option Addr) (c0 : Nat) (a : List S84) (A1 : Option Addr) (c1 : Nat) (b : List S84) (d : List S70) (w : World) (hr0 : Kd.C k84 w A0 a.length a) (hc0 : a.length ≤ c0) (hr1 : Kd.C k84 w A1 b.length b) (hc1 : b.length ≤ c1)
  (he0 : flow_CheckPart.f k a = some 0) (he1 : flow_CheckPart.f k b = some 0) (la : a.length ≤ 2000) (lb : b.length ≤ 2000) (h : rawF k a b = some d) :
  Calls Try.prog 56 #[.slice A0 a.length c0, .slice A1 b.length c1] w fun e w' => ∃ v : Value, e = .returned (.tuple #[v, .int .i64 0]) ∧ Kd.N k70 70 w' w.heap.size (fun _ => True) v d ∧ Below w.heap.size w w' := by
 have HR0 := Aside0.mk hr0
 have HC0 := Aside0.mk hc0
 have HR1 := Aside0.mk hr1
 have HC1 := Aside0.mk hc1
 have HE0 := Aside0.mk he0
 have HE1 := Aside0.mk he1
 have HF := Aside0.mk h
 have ga : decide ((2000 : Int) < (a.length : Int)) = false := decide_eq_false (by omega)
 have ga' : decide (2000 < a.length) = false := decide_eq_false (by omega)
 have gb : decide ((2000 : Int) < (b.length : Int)) = false := decide_eq_false (by omega)
 have gb' : decide (2000 < b.length) = false := decide_eq_false (by omega)
 have HLA := Aside0.mk la
 have HLB := Aside0.mk lb
 clear hr0 hc0 hr1 hc1 he0 he1 h la lb
 have i0 : ∀ w : World, (Instr.index 141 (.agg #[.slice A0 a.length c0, .slice A1 b.length c1]) (.int .i64 0)).run Try.prog w = .ok (.slice A0 a.length c0) w := fun _ => by kernel_rfl
 have i1 : ∀ w : World, (Instr.index 141 (.agg #[.slice A0 a.length c0, .slice A1 b.length c1]) (.int .i64 1)).run Try.prog w = .ok (.slice A1 b.length c1) w := fun _ => by kernel_rfl
 go_enter Try.func56, Try.ntmps56
 go_wp2
 have HB0 := Aside0.mk (Below.refl w.heap.size w)
 go_loopg [12] 2 (fun m v12 wr => ∃ (i : Nat), v12 = .int .i64 (i : Int) ∧ Aside0 (m + i = 2) ∧ Aside0 (Below w.heap.size w wr))
 case atStart => exact ⟨0, rfl, ⟨rfl⟩, HB0⟩
 case round =>
  clear HB0
  obtain ⟨i, rfl, HI, HB⟩ := hrel
  obtain ⟨i0, hi0⟩ : ∃ j, j = i := ⟨_, rfl⟩
  by_cases d0 : i = 0
  ·subst d0
   obtain rfl : gk = 2 := by have := HI.out; omega
   clear hi0
   go_wp2_with (go_at_call 99; (with_reducible refine (flow_CheckPart.calls k _ _ a 0 _ (Kd.C_below HR0.out HB.out) HC0.out HE0.out).mono ?_); rintro e1 w1 ⟨rfl, hb⟩; have HB1 := Aside0.mk (below_step HB.out hb); clear hb)
   go_roundg 1
   case measure => omega
   case rel => exact ⟨1, by first | rfl | simp, ⟨rfl⟩, HB1⟩
  by_cases d1 : i = 1
  ·subst d1
   obtain rfl : gk = 1 := by have := HI.out; omega
   clear hi0 d0
   go_wp2_with (go_at_call 99; (with_reducible refine (flow_CheckPart.calls k _ _ b 0 _ (Kd.C_below HR1.out HB.out) HC1.out HE1.out).mono ?_); rintro e1 w1 ⟨rfl, hb⟩; have HB1 := Aside0.mk (below_step HB.out hb); clear hb)
   go_roundg 0
   case measure => omega
   case rel => exact ⟨2, by first | rfl | simp, ⟨rfl⟩, HB1⟩
  obtain rfl : i = 2 := by have := HI.out; omega
  clear hi0 d0 d1
  go_wp2_with (go_at_call 100; (with_reducible refine (raw_calls0 _ _ k A0 c0 a A1 c1 b d _ (Kd.C_below HR0.out HB.out) HC0.out (Kd.C_below HR1.out HB.out) HC1.out (Nat.le_trans HLA.out (by omega)) (Nat.le_trans HLB.out (by omega)) rfl rfl HF.out).mono ?_); rintro e1 w1 ⟨v1, rfl, hR, hb⟩; have HR2 := Aside0.mk hR; have HB1 := Aside0.mk (below_step HB.out hb); clear hb hR)
  first | go_ret | go_ret2
  exact ⟨_, rfl, Kd.N_lower HR2.out HB.out.size, HB1.out⟩
def cut40 (f : List S84) : List S84 := if 40 < f.length then f.take 40 else f
def szS (x : S70) : Int := if x.f0 = 1 then (x.f3.length : Int) else x.f1
section
variable {w0 w wr w1 : World} {g gr gs : Nat} {cg cr cs cx : Array Value}
end
section
variable {w0 wr w1 : World} {gw gp gq u v u' v' : Nat} {P Q P' Q' : List S70} {s s' : WD}
end
def RG (x : S70) (u : Nat) : Prop := 0 ≤ x.f0 ∧ (u : Int) ≤ szS x ∧ szS x ≤ 1099511627776
instance (x : S70) (u : Nat) : Decidable (RG x u) := by unfold RG; infer_instance
end Go.Proofs.Ytdgemabmmomebaa.PDelta
end
section
namespace Go.Proofs.Ytdgemabmmomebaa.PDelta
open Go.RowKit Go.Proofs.YtdgemabmmomebaaW.PrintWords Go.Proofs.YtdgemabmmomebaaW.PrintLast Go.Proofs.YtdgemabmmomebaaW.PrintMore
attribute [local go_sem] min_two
end Go.Proofs.Ytdgemabmmomebaa.PDelta
end
section
namespace Go.Proofs.Ytdgemabmmomebaa.PDelta
open Go.RowKit Go.Proofs.YtdgemabmmomebaaW.PrintWords Go.Proofs.YtdgemabmmomebaaW.PrintLast Go.Proofs.YtdgemabmmomebaaW.PrintMore
section
variable {U V J : List Un}
end
end Go.Proofs.Ytdgemabmmomebaa.PDelta
end
section
namespace Go.Proofs.Ytdgemabmmomebaa.PDelta
open Go.RowKit Go.Proofs.YtdgemabmmomebaaW.PrintWords Go.Proofs.YtdgemabmmomebaaW.PrintLast Go.Proofs.YtdgemabmmomebaaW.PrintMore
open Go.RowKit Go.Proofs.YtdgemabmmomebaaW.PrintWords Go.Proofs.YtdgemabmmomebaaW.PrintLast Go.Proofs.YtdgemabmmomebaaW.PrintMore
open Go.RowKit Go.Proofs.YtdgemabmmomebaaW.PrintWords Go.Proofs.YtdgemabmmomebaaW.PrintLast Go.Proofs.YtdgemabmmomebaaW.PrintMore
end Go.Proofs.Ytdgemabmmomebaa.PDelta
end
section
namespace Go.Proofs.Ytdgemabmmomebaa.PDelta
open Go.RowKit Go.Proofs.YtdgemabmmomebaaW.PrintWords Go.Proofs.YtdgemabmmomebaaW.PrintLast Go.Proofs.YtdgemabmmomebaaW.PrintMore
section
variable {wB wr w1 : World} {gb : Nat} {x : S70} {A2 A3 : Option Addr} {c2 c3 : Nat} {out out' : List S70} {v v1 : Value}
end
end Go.Proofs.Ytdgemabmmomebaa.PDelta
end
section
namespace Go.Proofs.Ytdgemabmmomebaa.PDelta
open Go.RowKit Go.Proofs.YtdgemabmmomebaaW.PrintWords Go.Proofs.YtdgemabmmomebaaW.PrintLast Go.Proofs.YtdgemabmmomebaaW.PrintMore
end Go.Proofs.Ytdgemabmmomebaa.PDelta
end
section
namespace Go.Proofs.Ytdgemabmmomebaa.PDelta
open Go.RowKit Go.Proofs.YtdgemabmmomebaaW.PrintWords Go.Proofs.YtdgemabmmomebaaW.PrintLast Go.Proofs.YtdgemabmmomebaaW.PrintMore
structure TwoWaysCore (k : Nat) (a b : List S84) (c d : List S70) (m : Int) : Prop where
 ca : flow_CheckPart.f k a = some 0
 cb : flow_CheckPart.f k b = some 0
 la : a.length ≤ 40
 lb : b.length ≤ 40
 goes : rawF k a b = some c
 back : rawF k b a = some d
 one : diff_Cost.f k c = some (m, 0)
 two : diff_Cost.f k d = some (m, 0)
 most : m ≤ (a.length : Int) + (b.length : Int)
 ap : delta_Apply.f k a c = some (b, 0)
 same : chanceryref1_SameFlow.f k b b = some true
def TwoWaysAt (k : Nat) (a b : List S84) : Prop :=
 ∃ e, chanceryref1_PartError.f k (cut40 a) = some e ∧ (e ≠ 0 ∨ e = 0 ∧ ∃ f, chanceryref1_PartError.f k (cut40 b) = some f ∧ (f ≠ 0 ∨ f = 0 ∧ ∃ c d m, TwoWaysCore k (cut40 a) (cut40 b) c d m))
set_option maxRecDepth 100000 in
set_option maxHeartbeats 4000000 in
theorem bothLaw_calls (k : Nat) (A0 : Option Addr) (c0 : Nat) (a : List S84) (A1 : Option Addr) (c1 : Nat) (b : List S84) (w : World) (hr0 : Kd.C k84 w A0 a.length a) (hc0 : a.length ≤ c0) (hr1 : Kd.C k84 w A1 b.length b) (hc1 : b.length ≤ c1) (h : TwoWaysAt k a b) :
  Calls Try.prog 14 #[.slice A0 a.length c0, .slice A1 b.length c1] w fun e w' => e = .returned (.bool true) ∧ Below w.heap.size w w' := by
 have HR0 := Aside0.mk hr0
 have HC0 := Aside0.mk hc0
 have HR1 := Aside0.mk hr1
 have HC1 := Aside0.mk hc1
 clear hr0 hc0 hr1 hc1
 obtain ⟨e, he, h⟩ := h
 have HE := Aside0.mk he
 have H := Aside0.mk h
 clear he h
 obtain ⟨ta, hta⟩ : ∃ t : Bool, decide ((40 : Int) < (a.length : Int)) = t := ⟨_, rfl⟩
 have hta2 : decide (40 < a.length) = ta := by rw [← hta]; exact decide_eq_decide.mpr (by omega)
 go_enter Try.func14, Try.ntmps14
 go_upto_if 19 with (go_at_call 41; (with_reducible refine (deltas_calls _).mono ?_); rintro e1 w1 ⟨rfl, hb⟩; have HB1 := Aside0.mk hb; clear hb)
 go_cut [0] (fun v0 wx => Aside0 (v0 = .slice A0 (cut40 a).length c0) ∧ Aside0 (Below w.heap.size w wx))
 case first =>
  cases ta with
  | true =>
   have hl := of_decide_eq_true hta2
   have HE61 := Aside0.mk (show (cut40 a).length = 40 by unfold cut40; rw [if_pos hl, List.length_take]; omega)
   have s1 : (40 : Int) ≤ (c0 : Int) := by have := HC0.out; omega
   have s1' : (40 : Nat) ≤ c0 := by omega
   have s2 : decide ((40 : Int) ≤ (c0 : Int)) = true := decide_eq_true s1
   have s2' : decide (40 ≤ c0) = true := decide_eq_true s1'
   clear hl hta hta2
   go_wp2
   go_meet
   case rel => exact ⟨⟨by rw [HE61.out]⟩, HB1⟩
  | false =>
   have hl := of_decide_eq_false hta2
   have HE61 := Aside0.mk (show cut40 a = a from if_neg hl)
   clear hl hta hta2
   go_wp2
   go_meet
   case rel => exact ⟨⟨by rw [HE61.out]⟩, HB1⟩
 case rest =>
 clear hta hta2
 obtain ⟨hv0, HB2⟩ := hcut
 have hv0' := hv0.out
 subst hv0'
 clear hv0 HB1
 have HF : Aside0 (Kd.C k84 w A0 (cut40 a).length (cut40 a) ∧ (cut40 a).length ≤ c0) := ⟨by
  have := HC0.out
  unfold cut40
  split
  ·exact ⟨Kd.C_take HR0.out (by omega), by rw [List.length_take]; omega⟩
  ·exact ⟨HR0.out, this⟩⟩
 obtain ⟨a', ha'⟩ : ∃ f', f' = cut40 a := ⟨_, rfl⟩
 rw [← ha'] at HF HE H
 rw [← ha']
 clear ha' HR0 HC0
 obtain ⟨w2, hw2⟩ : ∃ w2, w2 = wc := ⟨_, rfl⟩
 rw [← hw2] at HB2 ⊢
 clear hw2
 obtain ⟨tb, htb⟩ : ∃ t : Bool, decide ((40 : Int) < (b.length : Int)) = t := ⟨_, rfl⟩
 have htb2 : decide (40 < b.length) = tb := by rw [← htb]; exact decide_eq_decide.mpr (by omega)
 go_upto_if 24 with (fail)
 go_cut [1] (fun v1 wx => Aside0 (v1 = .slice A1 (cut40 b).length c1) ∧ Aside0 (Below w.heap.size w wx))
 case first =>
  cases tb with
  | true =>
   have hl := of_decide_eq_true htb2
   have HE61 := Aside0.mk (show (cut40 b).length = 40 by unfold cut40; rw [if_pos hl, List.length_take]; omega)
   have s1 : (40 : Int) ≤ (c1 : Int) := by have := HC1.out; omega
   have s1' : (40 : Nat) ≤ c1 := by omega
   have s2 : decide ((40 : Int) ≤ (c1 : Int)) = true := decide_eq_true s1
   have s2' : decide (40 ≤ c1) = true := decide_eq_true s1'
   clear hl htb htb2
   go_wp2
   go_meet
   case rel => exact ⟨⟨by rw [HE61.out]⟩, HB2⟩
  | false =>
   have hl := of_decide_eq_false htb2
   have HE61 := Aside0.mk (show cut40 b = b from if_neg hl)
   clear hl htb htb2
   go_wp2
   go_meet
   case rel => exact ⟨⟨by rw [HE61.out]⟩, HB2⟩
 case rest =>
 clear htb htb2 HB2
 obtain ⟨hv1, HB3⟩ := hcut
 have hv1' := hv1.out
 subst hv1'
 clear hv1
 have HG : Aside0 (Kd.C k84 w A1 (cut40 b).length (cut40 b) ∧ (cut40 b).length ≤ c1) := ⟨by
  have := HC1.out
  unfold cut40
  split
  ·exact ⟨Kd.C_take HR1.out (by omega), by rw [List.length_take]; omega⟩
  ·exact ⟨HR1.out, this⟩⟩
 obtain ⟨b', hb'⟩ : ∃ f', f' = cut40 b := ⟨_, rfl⟩
 rw [← hb'] at HG H
 rw [← hb']
 clear hb' HR1 HC1
 rcases H.out with h0 | ⟨h0, f, hf, hh⟩
 ·have h0b : (e != 0) = true := bne_iff_ne.mpr h0
  clear h0 H
  go_wp2_with (go_at_call 42; (with_reducible refine (chanceryref1_PartError.calls k _ _ a' e _ (Kd.C_below HF.out.1 HB3.out) HF.out.2 HE.out).mono ?_); rintro e1 w3 ⟨rfl, hb⟩; have HB4 := Aside0.mk (below_step HB3.out hb); clear hb)
  first | go_ret | go_ret2
  exact ⟨rfl, HB4.out⟩
 have h0b : (e != 0) = false := by simpa using h0
 have HFE := Aside0.mk hf
 clear h0 H hf
 rcases hh with h1 | ⟨h1, c, d, m, hd⟩
 ·have h1b : (f != 0) = true := bne_iff_ne.mpr h1
  clear h1
  go_wp2_with (first
   | (go_at_call 42; (with_reducible refine (chanceryref1_PartError.calls k _ _ a' e _ (Kd.C_below HF.out.1 HB3.out) HF.out.2 HE.out).mono ?_); rintro e1 w3 ⟨rfl, hb⟩; have HB4 := Aside0.mk (below_step HB3.out hb); clear hb)
   | (go_at_call 42; (with_reducible refine (chanceryref1_PartError.calls k _ _ b' f _ (Kd.C_below HG.out.1 HB4.out) HG.out.2 HFE.out).mono ?_); rintro e1 w4 ⟨rfl, hb⟩; have HB5 := Aside0.mk (below_step HB4.out hb); clear hb))
  first | go_ret | go_ret2
  exact ⟨rfl, HB5.out⟩
 have h1b : (f != 0) = false := by simpa using h1
 have HD := Aside0.mk hd
 clear h1 hd
 go_upto_region 14 with (first
  | (go_at_call 42; (with_reducible refine (chanceryref1_PartError.calls k _ _ a' e _ (Kd.C_below HF.out.1 HB3.out) HF.out.2 HE.out).mono ?_); rintro e1 w3 ⟨rfl, hb⟩; have HB4 := Aside0.mk (below_step HB3.out hb); clear hb)
  | (go_at_call 42; (with_reducible refine (chanceryref1_PartError.calls k _ _ b' f _ (Kd.C_below HG.out.1 HB4.out) HG.out.2 HFE.out).mono ?_); rintro e1 w4 ⟨rfl, hb⟩; have HB5 := Aside0.mk (below_step HB4.out hb); clear hb)
  | (go_at_call 56; (with_reducible refine (flows_calls k A0 c0 a' A1 c1 b' c w4 (Kd.C_below HF.out.1 HB5.out) HF.out.2 (Kd.C_below HG.out.1 HB5.out) HG.out.2 HD.out.ca HD.out.cb (Nat.le_trans HD.out.la (by omega)) (Nat.le_trans HD.out.lb (by omega)) HD.out.goes).mono ?_); rintro e1 w5 ⟨v5, rfl, hR, hb⟩; obtain ⟨D1, m1, rfl⟩ := Kd.N_slice hR; have HR5 := Aside0.mk (And.intro (Kd.N_reads' hR).2.2 (Kd.N_reads' hR).2.1); have HB6 := Aside0.mk (below_step HB5.out hb); clear hR hb)
  | (go_at_call 56; (with_reducible refine (flows_calls k A1 c1 b' A0 c0 a' d w5 (Kd.C_below HG.out.1 HB6.out) HG.out.2 (Kd.C_below HF.out.1 HB6.out) HF.out.2 HD.out.cb HD.out.ca (Nat.le_trans HD.out.lb (by omega)) (Nat.le_trans HD.out.la (by omega)) HD.out.back).mono ?_); rintro e1 w6 ⟨v6, rfl, hR, hb⟩; obtain ⟨D2, m2, rfl⟩ := Kd.N_slice hR; have HR6 := Aside0.mk (And.intro (Kd.N_reads' hR).2.2 (Kd.N_reads' hR).2.1); have HB7 := Aside0.mk (below_step HB6.out hb); have H56 := Aside0.mk hb; clear hR hb)
  | (go_at_call 57; (with_reducible refine (diff_Cost.calls k D1 m1 c m 0 w6 (Kd.C_below HR5.out.1 H56.out) HR5.out.2 HD.out.one).mono ?_); rintro e1 w7 ⟨rfl, hb⟩; have HB8 := Aside0.mk (below_step HB7.out hb); have H57 := Aside0.mk (below_step H56.out hb); have H67 := Aside0.mk hb; clear hb)
  | (go_at_call 57; (with_reducible refine (diff_Cost.calls k D2 m2 d m 0 w7 (Kd.C_below HR6.out.1 H67.out) HR6.out.2 HD.out.two).mono ?_); rintro e1 w8 ⟨rfl, hb⟩; have HB9 := Aside0.mk (below_step HB8.out hb); have H58 := Aside0.mk (below_step H57.out hb); clear hb)
  | (go_at_call 48; (with_reducible refine (delta_Apply.calls k (fun j => j < w8.heap.size) A0 c0 a' D1 m1 c b' 0 w8 (Kd.V_mk HF.out.2 (Kd.C_F k84_heap (Kd.C_below HF.out.1 HB9.out))) (Kd.C_below HR5.out.1 H58.out) HR5.out.2 HD.out.ap).mono ?_); rintro e1 w9 ⟨v9, rfl, hR, hb⟩; obtain ⟨A9, n9, rfl⟩ := Kd.N_slice hR; have HR9 := Aside0.mk (And.intro (Kd.N_reads' hR).2.2 (Kd.N_reads' hR).2.1); have HB10 := Aside0.mk (below_step HB9.out hb); clear hR hb))
 have l0 : (0 : Int) ≤ (a'.length : Int) := by omega
 have l1 : (a'.length : Int) ≤ 40 := by have := HD.out.la; omega
 have l2 : (0 : Int) ≤ (b'.length : Int) := by omega
 have l3 : (b'.length : Int) ≤ 40 := by have := HD.out.lb; omega
 have lm : decide (m ≤ (a'.length : Int) + (b'.length : Int)) = true := decide_eq_true HD.out.most
 go_wp2_with (go_at_call 50; (with_reducible refine (chanceryref1_SameFlow.calls k A9 n9 b' A1 c1 b' true w9 HR9.out.1 HR9.out.2 (Kd.C_below HG.out.1 HB10.out) HG.out.2 HD.out.same).mono ?_); rintro e1 w10 ⟨rfl, hb⟩; have HB11 := Aside0.mk (below_step HB10.out hb); clear hb)
 first | go_ret | go_ret2
 exact ⟨rfl, HB11.out⟩
theorem cut40_fine {f : List S84} (hf : FFine f) : FFine (cut40 f) ∧ (cut40 f).length ≤ 40 := by
 have hcl : (cut40 f).length ≤ 40 ∧ ∀ x ∈ cut40 f, x ∈ f := by
  unfold cut40
  split
  ·exact ⟨by rw [List.length_take]; omega, fun x hx => List.mem_of_mem_take hx⟩
  ·exact ⟨by omega, fun x hx => hx⟩
 exact ⟨⟨by omega, fun x hx => hf.2 x (hcl.2 x hx)⟩, hcl.1⟩
theorem ways_law (a b : List S84) (hfa : FFine a) (hfb : FFine b) : ∃ k, TwoWaysAt k a b := by
 obtain ⟨ha, la⟩ := cut40_fine hfa
 obtain ⟨hb, lb⟩ := cut40_fine hfb
 unfold TwoWaysAt
 obtain ⟨A, hA⟩ : ∃ A, A = cut40 a := ⟨_, rfl⟩
 obtain ⟨B, hB⟩ : ∃ B, B = cut40 b := ⟨_, rfl⟩
 rw [← hA] at ha la
 rw [← hB] at hb lb
 rw [← hA, ← hB]
 obtain ⟨e, he, hei⟩ := rpart_ev A ha.fsmall
 by_cases h0 : e = 0
 rotate_left
 ·obtain ⟨k, hk⟩ := he.rounds
  exact ⟨k, e, hk, .inl h0⟩
 obtain ⟨f, hf, hfi⟩ := rpart_ev B hb.fsmall
 by_cases h1 : f = 0
 rotate_left
 ·obtain ⟨K0, g0⟩ := he
  obtain ⟨K1, g1⟩ := hf
  exact ⟨K0 + K1, e, g0 _ (by omega), .inr ⟨h0, f, g1 _ (by omega), .inl h1⟩⟩
 have hpA := hei.1 h0
 have hpB := hfi.1 h1
 have qa : ∀ x ∈ A, ElemOK x ∧ x.f2.length ≤ 1048576 := fun x hx => ⟨pok_mem.1 hpA x hx, (ha.2 x hx).2⟩
 have qb : ∀ x ∈ B, ElemOK x ∧ x.f2.length ≤ 1048576 := fun x hx => ⟨pok_mem.1 hpB x hx, (hb.2 x hx).2⟩
 obtain ⟨c, ec, fc, oc, rc, kc, lc⟩ := rawF_spec A B (by omega) (by omega) qa qb
 obtain ⟨d, ed, fd, od, rd_, kd, ld⟩ := rawF_spec B A (by omega) (by omega) qb qa
 obtain ⟨pa, epa, ipa⟩ := part_ev A ha.fsmall
 obtain ⟨pb, epb, ipb⟩ := part_ev B hb.fsmall
 obtain rfl : pa = 0 := ipa.2 hpA
 obtain rfl : pb = 0 := ipb.2 hpB
 have dc := fc.dok (by omega)
 have dd := fd.dok (by omega)
 have bc : DB 1073741824 c := fc.db (by omega) (by omega)
 have bd : DB 1073741824 d := fd.db (by omega) (by omega)
 have c1 := cost_ev c (dsm fc.ok bc (Nat.le_refl _)) dc (by omega)
 have c2 := cost_ev d (dsm fd.ok bd (Nat.le_refl _)) dd (by omega)
 rw [kc] at c1
 rw [kd, tcT_comm B A] at c2
 have hn := nnew_le (units c)
 have ap := apply_ev A c hpA (LB.mono ha.lb (by omega)) dc bc (by rw [old_units fc.ok, oc]) (by rw [new_units fc.ok]; omega)
 rw [rc] at ap
 have sm := same_flow_ev B hb.fsmall
 have tl := tcT_le A B
 obtain ⟨K0, g0⟩ := he
 obtain ⟨K1, g1⟩ := hf
 obtain ⟨K2, g2⟩ := ec
 obtain ⟨K3, g3⟩ := ed
 obtain ⟨K4, g4⟩ := epa
 obtain ⟨K5, g5⟩ := epb
 obtain ⟨K6, g6⟩ := c1
 obtain ⟨K7, g7⟩ := c2
 obtain ⟨K8, g8⟩ := ap
 obtain ⟨K9, g9⟩ := sm
 obtain ⟨M, hM⟩ : ∃ M, M = K0 + K1 + K2 + K3 + K4 + K5 + K6 + K7 + K8 + K9 := ⟨_, rfl⟩
 exact ⟨M, e, g0 _ (by omega), .inr ⟨h0, f, g1 _ (by omega), .inr ⟨h1, c, d, _, ⟨g4 _ (by omega), g5 _ (by omega), la, lb, g2 _ (by omega), g3 _ (by omega), g6 _ (by omega), g7 _ (by omega), by omega, g8 _ (by omega), g9 _ (by omega)⟩⟩⟩⟩
end Go.Proofs.Ytdgemabmmomebaa.PDelta
end

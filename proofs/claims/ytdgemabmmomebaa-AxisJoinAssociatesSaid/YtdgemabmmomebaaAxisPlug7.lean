/- The dice of the laws. -/
import Derived.Test.YtdgemabmmomebaaPAxisx4
import Derived.StillTailTactics
namespace Go.Proofs.Ytdgemabmmomebaa.PAxis
open Go.RowKit Go.Proofs.YtdgemabmmomebaaW.PrintWords Go.Proofs.YtdgemabmmomebaaW.PrintLast Go.Proofs.YtdgemabmmomebaaW.PrintMore
set_option linter.unusedVariables false
set_option linter.unusedSimpArgs false

/-- The dice at block g: the numbers raw, u of them used. -/
structure DiceSt (w0 : World) (g : Nat) (raw : List Int) (u : Nat) (w : World) : Prop where
  ex : ∃ (A : Option Addr) (c : Nat), w.heap[g]? = some (.cells #[.slice A raw.length c, .int .i64 (u : Int)] 100 (0, 0)) ∧ Kd.C (Kd.int .i64) w0 A raw.length raw ∧ raw.length ≤ c
theorem wrap_mid {i : Int} (h0 : 0 ≤ i) (h : i ≤ 4611686018427387904) : wrap64 i = i := by unfold wrap64; omega
theorem wrap_k {i : Int} (h0 : 0 ≤ i) (h : i ≤ 4611686018427387904) : IntKind.i64.wrap i = i := by rw [i64_w]; exact wrap_mid h0 h
theorem add_block (a : Addr) (n : Nat) : (a.add n).block = a.block := by unfold Go.Addr.add; split <;> rfl
/-- What roll returns. -/
def rollF (raw : List Int) (u : Nat) (n : Int) : Option Int :=
  if raw.length = 0 then some 0 else chanceryref1_Within.f (wrap64 (rd raw ((u % raw.length : Nat) : Int) + (((u + 1) / raw.length : Nat) : Int))) 0 (wrap64 (n - 1))
def rollU (raw : List Int) (u : Nat) : Nat := if raw.length = 0 then u else u + 1

set_option maxRecDepth 100000 in
set_option maxHeartbeats 4000000 in
theorem roll_calls (w0 : World) (g : Nat) (raw : List Int) (u : Nat) (n r : Int) (w : World) (h0 : w0.heap.size ≤ g) (h : DiceSt w0 g raw u w) (hB : Below w0.heap.size w0 w) (hu : u < 4611686018427387904) (hf : rollF raw u n = some r) :
    Calls Try.prog 70 #[.pointer (some ⟨g, 0, none⟩), .int .i64 n] w fun e w' => e = .returned (.int .i64 r) ∧ DiceSt w0 g raw (rollU raw u) w' ∧ (w.heap.size ≤ w'.heap.size ∧ ∀ k, k < w.heap.size → k ≠ g → w'.heap[k]? = w.heap[k]?) ∧ Below w0.heap.size w0 w' := by
  have hu100 := Try.underlying100
  obtain ⟨A, c, hb, hC, hc⟩ := h.ex
  have hc0 : w.cell? ⟨g, 0, none⟩ = some (.slice A raw.length c) := (blk_cell hb 0).trans rfl
  have hc1 : w.cell? ⟨g, 1, none⟩ = some (.int .i64 (u : Int)) := (blk_cell hb 1).trans rfl
  have hf1 := blk_frozen hb 1
  have HB := Aside0.mk hB
  have HC := Aside0.mk hC
  have HBL := Aside0.mk hb
  have HCC := Aside0.mk hc
  have H0 := Aside0.mk h0
  have HS := Aside0.mk h
  clear h hb hC hB hc h0
  by_cases c1 : raw.length = 0
  · have e' : rollU raw u = u := if_pos c1
    rw [rollF, if_pos c1] at hf
    injection hf with hf
    subst hf
    have c1b : ((raw.length : Int) == 0) = true := beq_iff_eq.mpr (by omega)
    have c1c : (raw.length == 0) = true := beq_iff_eq.mpr c1
    rw [e']
    clear e' c1
    go_enter Try.func70, Try.ntmps70
    go_wp2
    first | go_ret | go_ret2
    exact ⟨rfl, HS.out, ⟨Nat.le_refl _, fun _ _ _ => rfl⟩, HB.out⟩
  · have e' : rollU raw u = u + 1 := if_neg c1
    rw [rollF, if_neg c1] at hf
    have c1b : ((raw.length : Int) == 0) = false := beq_eq_false_iff_ne.mpr (by omega)
    have c1c : (raw.length == 0) = false := beq_eq_false_iff_ne.mpr c1
    rw [e']
    have hlen : 0 < raw.length := by omega
    have hm' : u % raw.length < raw.length := Nat.mod_lt _ hlen
    have hmu : u % raw.length ≤ u := Nat.mod_le _ _
    have hqu : (u + 1) / raw.length ≤ u + 1 := Nat.div_le_self _ _
    have t1 : Int.tmod (u : Int) (raw.length : Int) = ((u % raw.length : Nat) : Int) := rfl
    have t2 : Int.tdiv ((u : Int) + 1) (raw.length : Int) = (((u + 1) / raw.length : Nat) : Int) := rfl
    obtain ⟨m, hm⟩ : ∃ m, m = u % raw.length := ⟨_, rfl⟩
    obtain ⟨q, hq⟩ : ∃ q, q = (u + 1) / raw.length := ⟨_, rfl⟩
    rw [← hm] at t1 hf hm' hmu
    rw [← hq] at t2 hf hqu
    clear hm hq
    obtain ⟨ad0, e0, hx0⟩ := Kd.at_int HC.out (m : Int) (by omega) (by omega)
    cases e0
    have HGN : Aside0 (g ≠ ad0.block) := ⟨fun e => by have := World.block_lt_of_cell? w0 _ hx0; have := H0.out; rw [add_block] at *; omega⟩
    replace hx0 := (HB.out.cell (World.block_lt_of_cell? w0 _ hx0)).trans hx0
    replace hx0 := (World.cell?_setCell_far w ⟨g, 1, none⟩ (ad0.add ((m : Int)).toNat) (.int .i64 ((u : Int) + 1)) (by rw [add_block]; exact HGN.out)).trans hx0
    simp only [Int.toNat_natCast] at hx0
    have w1 : wrap64 ((u : Int) + 1) = (u : Int) + 1 := wrap_mid (by omega) (by omega)
    have w2 : wrap64 (((u : Int) + 1) - 1) = (u : Int) := by rw [Int.add_sub_cancel]; exact wrap_mid (by omega) (by omega)
    have w3 : IntKind.i64.wrap (u : Int) = (u : Int) := wrap_k (by omega) (by omega)
    have w5 : IntKind.i64.wrap (m : Int) = (m : Int) := wrap_k (by omega) (by omega)
    have w6 : IntKind.i64.wrap (q : Int) = (q : Int) := wrap_k (by omega) (by omega)
    have HF := Aside0.mk hf
    have q0 : (m : Int) < (raw.length : Int) := by omega
    have q1 : m < raw.length := by omega
    have c1d : ¬ ((raw.length : Int) = 0) := by omega
    clear e' hf hu hmu hqu
    go_enter Try.func70, Try.ntmps70
    go_wp2
    refine wp_region_still_tail 30 (by kernel_rfl) (by kernel_rfl) ?_
    simp only [List.take_succ_cons, List.take_zero, List.drop_succ_cons, List.drop_zero]
    change wpStill _ _ (World.drew _) (fun a' => wpList _ _ _ _ a' (World.drew _)) _ _
    repeat still_step
    refine wpStill_nil ?_
    go_wp2_with (go_at_call 32; (with_reducible refine (chanceryref1_Within.calls _ _ _ r _ HF.out).mono ?_); rintro e1 w5 ⟨rfl, hd⟩; have HDR := Aside0.mk hd; clear hd)
    first | go_ret | go_ret2
    have hs : w.heap.size = (w.setCell ⟨g, 1, none⟩ (.int .i64 ((u : Int) + 1))).heap.size := by simp [World.setCell]
    have hbb := Below.refl (w.setCell ⟨g, 1, none⟩ (.int .i64 ((u : Int) + 1))).heap.size (w.setCell ⟨g, 1, none⟩ (.int .i64 ((u : Int) + 1)))
    have hbd := below_step (below_drew1 hbb) HDR.out.below
    refine ⟨rfl, ⟨_, _, (hbd.block g (by rw [← hs]; exact blk_lt HBL.out)).trans (blk_put HBL.out 1 _ rfl), HC.out, HCC.out⟩, ⟨by rw [hs]; exact hbd.size, fun k hk hg => ?_⟩, below_step (below_set HB.out H0.out) hbd⟩
    rw [hbd.block k (by rw [← hs]; exact hk), Below.heap_setCell _ _ _ _ hg]

end Go.Proofs.Ytdgemabmmomebaa.PAxis

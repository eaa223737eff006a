/- Parts of the proof of Tidy: nothing is claimed here by itself. -/
import Derived.Test.YtdgemabmmomebaaKTidy5
set_option linter.unusedVariables false
set_option linter.unusedSimpArgs false
section
namespace Go.Proofs.Ytdgemabmmomebaa.PDelta
open Go.RowKit Go.Proofs.YtdgemabmmomebaaW.PrintWords Go.Proofs.YtdgemabmmomebaaW.PrintLast Go.Proofs.YtdgemabmmomebaaW.PrintMore
def chR (raw : List Int) (name : ByteArray) : Nat → Nat → Nat → List (List S84) → List Bool → List (List S38) → Option (List (List S84) × List Bool × List (List S38))
  | 0, i, u, As, Cs, Ts => some (As, Cs, Ts)
  | m + 1, i, u, As, Cs, Ts => (rollF raw (rollU raw u) 8).bind fun y => (rollF raw (rollU raw (rollU raw u)) 8).bind fun z =>
    chL raw name m (i + 1) (rollU raw (rollU raw (rollU raw u))) As (Cs ++ [z == 0]) (Ts ++ [attrsL y name])
theorem chL_eq (raw : List Int) (name : ByteArray) (m i u : Nat) (As : List (List S84)) (Cs : List Bool) (Ts : List (List S38)) :
    chL raw name m i u As Cs Ts = (rollF raw u 8).bind fun x => chR raw name m i u (As ++ [addsL i name (x - 5).toNat]) Cs Ts := by cases m <;> rfl
theorem chL_len (raw : List Int) (name : ByteArray) : ∀ (m i u : Nat) (As : List (List S84)) (Cs : List Bool) (Ts : List (List S38)) (t : List (List S84) × List Bool × List (List S38)), chL raw name m i u As Cs Ts = some t →
    t.1.length = As.length + m + 1 ∧ t.2.1.length = Cs.length + m ∧ t.2.2.length = Ts.length + m
  | 0, i, u, As, Cs, Ts, t, h => by
    obtain ⟨x, _, h⟩ := Option.bind_eq_some_iff.1 h
    injection h with h
    subst h
    simp
  | m + 1, i, u, As, Cs, Ts, t, h => by
    obtain ⟨x, _, h⟩ := Option.bind_eq_some_iff.1 h
    obtain ⟨y, _, h⟩ := Option.bind_eq_some_iff.1 h
    obtain ⟨z, _, h⟩ := Option.bind_eq_some_iff.1 h
    have := chL_len raw name m _ _ _ _ _ t h
    simp only [List.length_append, List.length_singleton] at this
    omega
theorem r_readsM {α : Type} {d : Kd α} {e : Nat} {w : World} {base : Nat} {ok : Nat → Prop} {A : Option Addr} {n c : Nat} {xs : List α} (h : d.R e w base ok (.slice A n c) xs) : ReadsRow (d.M w base (fun k => ok k ∧ some k ≠ (Value.slice A n c).ownBlock)) d.sz w A n xs := by
  obtain ⟨A', c', he, hl, hr⟩ := OwnRow.reads h.2
  injection he with h1 h2 h3
  subst h1
  rw [h2] at hr ⊢
  exact hr
theorem m_apart {α β : Type} {d : Kd α} {d' : Kd β} {e' : Nat} {wr : World} {base base' : Nat} {ok ok' : Nat → Prop} {x : α} {cs : List Value} {v' : Value} {ys : List β} (h : d.M wr base ok x cs) (h' : d'.R e' wr base' ok' v' ys) (ht : ∀ q, q ∈ d.E → q ≠ e') : d.M wr base (fun k => ok k ∧ some k ≠ v'.ownBlock) x cs := by
  cases hv : v'.ownBlock with
  | none => exact d.M_mono (fun k hk => ⟨hk, by simp⟩) h
  | some g =>
    obtain ⟨cells, hc⟩ := Kd.R_typed h' g hv
    exact d.M_mono (fun k hk => ⟨hk.1, fun e => hk.2 (Option.some.inj e)⟩) (Kd.M_types h hc ht)
theorem ChS.made {w wr w1 : World} {ga gd n : Nat} {raw : List Int} {As : List (List S84)} {Cs : List Bool} {Ts : List (List S38)} {cA cB cC vA vB vC u : Value} (h : ChS w ga gd raw n As Cs Ts cA cB cC vA vB vC u wr) (hg : wr.grownBy w1 none) (hb : Below w.heap.size w w1) : ChS w ga gd raw n As Cs Ts cA cB cC vA vB vC u w1 := by
  obtain ⟨cs, hd⟩ := h.dice.typed
  exact ⟨h.lga, h.lgd, (hg.block _ (blk_lt h.bk) (by simp)).trans h.bk, Kd.R_grown h.rA hg (fun _ _ => by simp), Kd.R_grown h.rB hg (fun _ _ => by simp), Kd.R_grown h.rC hg (fun _ _ => by simp), h.dice.block (hg.block _ (blk_lt hd) (by simp)), hb⟩
theorem info63 : (Try.prog.info? 63).map (fun i => (i.zero, i.size, i.bytes)) = some (some (.slice none 0 0), 1, 24) := by kernel_rfl
theorem info4 : (Try.prog.info? 4).map (fun i => (i.zero, i.size, i.bytes)) = some (some (.bool false), 1, 1) := by kernel_rfl
theorem info32 : (Try.prog.info? 32).map (fun i => (i.zero, i.size, i.bytes)) = some (some (.slice none 0 0), 1, 24) := by kernel_rfl
theorem roll8_range {raw : List Int} {u : Nat} {x : Int} (h : rollF raw u 8 = some x) : 0 ≤ x ∧ x ≤ 7 := by
  unfold rollF at h
  split at h
  · injection h with h; omega
  · rw [show wrap64 (8 - 1) = 7 by unfold wrap64; omega] at h
    obtain ⟨q, hq⟩ : ∃ q, q = wrap64 (rd raw ((u % raw.length : Nat) : Int) + (((u + 1) / raw.length : Nat) : Int)) := ⟨_, rfl⟩
    rw [← hq] at h
    clear hq
    unfold chanceryref1_Within.f at h
    rw [show wrap64 (7 - 0) = 7 by unfold wrap64; omega, show wrap64 (7 + 1) = 8 by unfold wrap64; omega, if_neg (by decide)] at h
    simp only [Int.reduceLE, ↓reduceIte, Option.some.injEq] at h
    have h3 : -8 < Int.tmod q 8 ∧ Int.tmod q 8 < 8 := ⟨Int.lt_tmod_of_pos q (by decide), Int.tmod_lt_of_pos q (by decide)⟩
    have h4 : wrap64 (Int.tmod q 8 + 8) = Int.tmod q 8 + 8 := by unfold wrap64; omega
    rw [h4] at h
    have h5 : 0 ≤ Int.tmod (Int.tmod q 8 + 8) 8 := Int.tmod_nonneg _ (by omega)
    have h6 : Int.tmod (Int.tmod q 8 + 8) 8 < 8 := Int.tmod_lt_of_pos _ (by decide)
    have h7 : wrap64 (0 + Int.tmod (Int.tmod q 8 + 8) 8) = Int.tmod (Int.tmod q 8 + 8) 8 := by unfold wrap64; omega
    rw [h7] at h
    omega
theorem sum_w (i j M c : Nat) (hi : i ≤ M) (hM : M ≤ 1048576) (hj : j < c) (hc : c ≤ 2) : wrap64 ((i : Int) + (j : Int)) = ((i + j : Nat) : Int) := by unfold wrap64; omega
theorem sum_q (i j q : Nat) (hq : q = (i + j) % 26) : Int.tmod ((i + j : Nat) : Int) 26 = (q : Int) := by rw [Int.tmod_eq_emod_of_nonneg (Int.natCast_nonneg _), hq]; omega
theorem sum_q2 (i j q : Nat) (hq : q = (i + j) % 26) : Int.tmod ((i : Int) + (j : Int)) 26 = (q : Int) := sum_q i j q hq
theorem sum_65 (q : Nat) (h : q < 26) : wrap64 (65 + (q : Int)) = 65 + (q : Int) := by unfold wrap64; omega
theorem q_lt (i j : Nat) : (i + j) % 26 < 26 := Nat.mod_lt _ (Nat.zero_lt_succ _)
theorem addsL_len (i : Nat) (name : ByteArray) : ∀ j, (addsL i name j).length = j
  | 0 => rfl
  | j + 1 => by rw [addsL, List.length_append, addsL_len i name j]; rfl
theorem rollU_le (raw : List Int) (u : Nat) : rollU raw u ≤ u + 1 := by unfold rollU; split <;> omega
set_option maxRecDepth 100000 in
set_option maxHeartbeats 1000000 in
theorem change_calls (k : Nat) (n : Int) (A0 : Option Addr) (c0 : Nat) (raw : List Int) (name : ByteArray) (r : List S70) (w : World) (hr0 : Kd.C (Kd.int .i64) w A0 raw.length raw) (hc0 : raw.length ≤ c0) (h : changeF k n raw name = some r) :
    Calls Try.prog 43 #[.int .i64 n, .slice A0 raw.length c0, .string name] w fun e w' => ∃ v0_ : Value, e = .returned v0_ ∧ Kd.N k70 70 w' w.heap.size (fun _ => True) v0_ r ∧ Below w.heap.size w w' := by
  have hu70 := Try.underlying70
  have hu84 := Try.underlying84
  have hu38 := Try.underlying38
  have hu123 := Try.underlying123
  have hon2 : chancerykeep1_on.f (⟨#[98, 111, 108, 100]⟩ : ByteArray) = some (onL sBold) := rfl
  have hon : chancerykeep1_on.f name = some (onL name) := rfl
  have hu100 := Try.underlying100
  have HR0 := Aside0.mk hr0
  have HC0 := Aside0.mk hc0
  rw [changeF] at h
  by_cases hn : 0 ≤ n ∧ n ≤ 1048576
  rotate_left
  · rw [if_neg hn] at h
    cases h
  rw [if_pos hn] at h
  obtain ⟨⟨Ar, Cr, Tr⟩, ht, hdof⟩ := Option.bind_eq_some_iff.1 h
  obtain ⟨M, hM⟩ : ∃ M : Nat, n = (M : Int) := ⟨n.toNat, by omega⟩
  subst hM
  rw [Int.toNat_natCast] at ht
  have HM := Aside0.mk (show M ≤ 1048576 by omega)
  have HLN := Aside0.mk (show Ar.length = M + 1 ∧ Cr.length = M ∧ Tr.length = M by have := chL_len _ _ _ _ _ _ _ _ _ ht; simpa using this)
  have HZ := Aside0.mk (show chL raw name (M - 0) 0 0 [] [] [] = some (Ar, Cr, Tr) from ht)
  have HDL := Aside0.mk (show dofL k Ar Cr Tr [] [] 0 = some r from hdof)
  clear hdof
  clear hr0 hc0 h hn ht
  have HJ0 : Aside0 (ChS w w.heap.size (w.heap.size + 1) raw 0 [] [] [] (.slice none 0 0) (.slice none 0 0) (.slice none 0 0) (.slice none 0 0) (.slice none 0 0) (.slice none 0 0) (.slice none 0 0) ((w.alloc (Obj.cells #[Value.slice none 0 0, Value.slice none 0 0, Value.slice none 0 0] 123 (0, 0))).alloc (Obj.cells #[Value.slice A0 raw.length c0, Value.int IntKind.i64 0] 100 (0, 0)))) := by
    refine ⟨⟨Nat.le_refl _, by omega, blk_alloc (blk_new w _) _, Kd.R_nil _ _ _ _ _, Kd.R_nil _ _ _ _ _, Kd.R_nil _ _ _ _ _, ⟨A0, c0, ?_, HR0.out, HC0.out⟩, below_alloc (below_alloc (Below.refl _ _) _) _⟩⟩
    have := blk_new (w.alloc (Obj.cells #[Value.slice none 0 0, Value.slice none 0 0, Value.slice none 0 0] 123 (0, 0))) (Obj.cells #[Value.slice A0 raw.length c0, Value.int IntKind.i64 0] 100 (0, 0))
    rw [World.size_alloc] at this
    exact this
  go_enter Try.func43, Try.ntmps43
  go_wp2
  obtain ⟨gd, hgd⟩ : ∃ g, g = w.heap.size + 1 := ⟨_, rfl⟩
  rw [← hgd] at HJ0
  rw [← hgd]
  clear hgd
  obtain ⟨ga, hga⟩ : ∃ g, g = w.heap.size := ⟨_, rfl⟩
  have HJ1 : Aside0 (ChS w ga gd raw 0 [] [] [] (.slice none 0 0) (.slice none 0 0) (.slice none 0 0) (.slice none 0 0) (.slice none 0 0) (.slice none 0 0) (.slice none 0 0) ((w.alloc (Obj.cells #[Value.slice none 0 0, Value.slice none 0 0, Value.slice none 0 0] 123 (0, 0))).alloc (Obj.cells #[Value.slice A0 raw.length c0, Value.int IntKind.i64 0] 100 (0, 0)))) := ⟨by rw [hga]; exact HJ0.out⟩
  rw [show w.heap.size = ga from hga.symm]
  clear hga HJ0
  go_loopg [9] (M + 1) (fun m v9 wr => ∃ (i u : Nat) (As : List (List S84)) (Cs : List Bool) (Ts : List (List S38)) (vA vB vC : Value), v9 = .int .i64 (i : Int) ∧ Aside0 (m + i = M + 1 ∧ u ≤ 3 * i ∧ As.length = i ∧ Cs.length = i ∧ Ts.length = i) ∧ Aside0 (ChS w ga gd raw u As Cs Ts vA vB vC vA vB vC (.slice none 0 0) wr) ∧ Aside0 (chL raw name (M - i) i u As Cs Ts = some (Ar, Cr, Tr)))
  case atStart => exact ⟨0, 0, [], [], [], _, _, _, rfl, ⟨by simp⟩, HJ1, HZ⟩
  case round =>
    clear HJ1 HZ
    obtain ⟨i, u, As, Cs, Ts, vA, vB, vC, rfl, HI, HS, HL⟩ := hrel
    by_cases hi : i ≤ M
    rotate_left
    · have g1 : decide ((i : Int) ≤ (M : Int)) = false := decide_eq_false (by omega)
      have hL := HL.out
      rw [chL_eq] at hL
      exfalso
      have h1 := HLN.out
      have h2 := chL_len _ _ _ _ _ _ _ _ _ HL.out
      have := HI.out
      simp only [List.length_nil] at h1 h2
      omega
    obtain ⟨gl, rfl⟩ : ∃ gl, gk = gl + 1 := ⟨gk - 1, by have := HI.out; omega⟩
    have g1 : decide ((i : Int) ≤ (M : Int)) = true := decide_eq_true (by omega)
    have g1' : decide (i ≤ M) = true := decide_eq_true hi
    have hL := HL.out
    rw [chL_eq] at hL
    obtain ⟨x, hx, hL⟩ := Option.bind_eq_some_iff.1 hL
    have HX := Aside0.mk hx
    have HLR := Aside0.mk hL
    have HXR := Aside0.mk (roll8_range hx)
    obtain ⟨c, hc⟩ : ∃ c : Nat, c = (x - 5).toNat := ⟨_, rfl⟩
    rw [← hc] at HLR
    obtain ⟨y, hy⟩ : ∃ y, y = x - 5 := ⟨_, rfl⟩
    have hw1 : IntKind.i64.wrap (x - 5) = y := by rw [i64_w, hy]; have := HXR.out; unfold wrap64; omega
    have hw2 : wrap64 (x - 5) = y := by rw [hy]; have := HXR.out; unfold wrap64; omega
    have hmx : (if 0 < y then y else 0) = (c : Int) := by rw [hc, hy]; split <;> omega
    have HCB := Aside0.mk (show c ≤ 2 by rw [hc]; have := HXR.out; omega)
    clear hx hL HL hc hy
    go_wp2_with (go_at_call 70; (with_reducible refine (HS.out.roll_calls (by have := HI.out; have := HM.out; omega) HX.out).mono ?_); rintro e1 w5 ⟨rfl, hJ, _, _⟩; clear HS; have HS := Aside0.mk hJ; clear hJ)
    clear hw1 hw2 hmx
    go_loopg [10, 25] c (fun m v10 v25 wx => ∃ (j : Nat), v25 = .int .i64 (j : Int) ∧ Aside0 (m + j = c) ∧ Aside0 (ChS w ga gd raw (rollU raw u) As Cs Ts vA vB vC vA vB vC v10 wx ∧ Kd.R k84 84 wx w.heap.size (fun _ => True) v10 (addsL i name j)))
    case atStart => exact ⟨0, rfl, ⟨rfl⟩, ⟨HS.out, Kd.R_nil _ _ _ _ _⟩⟩
    case round =>
      clear HS
      obtain ⟨j, rfl, HJ, HS⟩ := hrel
      obtain ⟨A4, n4, e4⟩ := Kd.R_slice HS.out.2
      subst e4
      by_cases hj : j < c
      · obtain ⟨g2, rfl⟩ : ∃ g2, gk = g2 + 1 := ⟨gk - 1, by have := HJ.out; omega⟩
        have k1 : decide ((j : Int) < (c : Int)) = true := decide_eq_true (by omega)
        have k1' : decide (j < c) = true := decide_eq_true hj
        go_upto_region 10 with (fail)
        have HWK := Aside0.mk (show wrap64 ((j : Int) + 1) = (j : Int) + 1 by have := HCB.out; unfold wrap64; omega)
        have hlen : (addsL i name j).length = j := addsL_len i name j
        have HJL := Aside0.mk (show (addsL i name j).length ≤ 2 by have := HCB.out; omega)
        have HJ3 := Aside0.mk (show g2 + (j + 1) = c by have := HJ.out; omega)
        have HIM := Aside0.mk hi
        have HJC := Aside0.mk hj
        clear hlen
        obtain ⟨q, hq⟩ : ∃ q : Nat, q = (i + j) % 26 := ⟨_, rfl⟩
        have HQ := Aside0.mk (show addsL i name (j + 1) = addsL i name j ++ [⟨65 + (q : Int), 0, onL name⟩] by rw [addsL, hq])
        have w1 := sum_w i j M c hi HM.out hj HCB.out
        have w2 := sum_q i j q hq
        have w2' := sum_q2 i j q hq
        have w3 := sum_65 q (by rw [hq]; exact q_lt i j)
        clear hq hj hi
        go_upto_region 11 with (first
          | (go_at_call 83; with_reducible refine (chancerykeep1_on.calls name (onL name) _ hon).mono ?_; rintro e w6 ⟨v6, rfl, hR6, hb6⟩; obtain ⟨A6, n6, rfl⟩ := Kd.R_slice hR6; have HR6 := Aside0.mk (Kd.R_lower (Kd.R_newR hR6 HS.out.2) HS.out.1.bel.size); have HS6 := Aside0.mk (And.intro (HS.out.1.below hb6) (Kd.R_below HS.out.2 hb6)); clear hR6 hb6)
          | (at_builtin; refine Kd.R_append k84 (w0 := w) w.heap.size rfl (.tmp 28) (.tmp 37) 63 84 (.agg #[.int .i64 0, .int .i64 0, .slice none 0 0]) 40 rfl Try.underlying63 info84 rfl (by decide) (by decide) _ (addsL i name j) ⟨65 + (q : Int), 0, onL name⟩ _ (fun _ => True) (fun k => True ∧ some k ≠ (Value.slice A4 (addsL i name j).length n4).ownBlock) rfl (by simp [Act.eval]) (k84_mkM _ _ _ ⟨65 + (q : Int), 0, onL name⟩ HR6.out) (fun _ hk => hk) (fun _ _ => trivial) HS6.out.2 HS6.out.1.bel HS6.out.1.bel.size (by have := HJL.out; omega) ?_; intro v1 w7 hR7 hB7 hg7 hat7; have HS7 := Aside0.mk (And.intro (HS6.out.1.appU HS6.out.2 hg7 hat7 hB7) hR7); clear hR7 hB7 hg7 hat7))
        clear w1 w2 w2' w3
        have hi := HIM.out
        have wk2 := HWK.out
        go_wp2
        go_roundg g2
        case measure => omega
        case rel => exact ⟨j + 1, by simp [wk2], HJ3, ⟨HS7.out.1, by rw [HQ.out]; exact HS7.out.2⟩⟩
      · obtain rfl : c = j := by have := HJ.out; omega
        have k1 : decide ((c : Int) < (c : Int)) = false := decide_eq_false (by omega)
        have k1' : decide (c < c) = false := decide_eq_false hj
        obtain ⟨A5, n5, e5⟩ := Kd.R_slice HS.out.1.rA
        subst e5
        have hcA : wr.cell? ⟨ga, 0, none⟩ = some (.slice A5 As.length n5) := (blk_cell HS.out.1.bk 0).trans rfl
        have HAL := Aside0.mk (show As.length ≤ 1048577 by have := HI.out; have := HM.out; omega)
        have HIM := Aside0.mk hi
        clear hj
        go_upto_region 13 with (at_builtin; refine Kd.R_append (Kd.slice 84 k84) (w0 := w) w.heap.size rfl (.tmp 41) (.tmp 43) 119 63 (.slice none 0 0) 24 rfl Try.underlying119 info63 rfl (by decide) (by decide) _ As (addsL i name c) _ (fun _ => True) (fun k => True ∧ some k ≠ (Value.slice A5 As.length n5).ownBlock) rfl (by simp [Act.eval]) ⟨_, rfl, Kd.R_apartR HS.out.2 HS.out.1.rA (by decide)⟩ (fun _ hk => hk) (fun _ _ => trivial) (Kd.R_mono HS.out.1.rA (fun _ _ => trivial)) HS.out.1.bel HS.out.1.bel.size (by have := HAL.out; omega) ?_; intro v1 w7 hR7 hB7 hg7 hat7; obtain ⟨Ax, hAx⟩ : ∃ l, l = As ++ [addsL i name c] := ⟨_, rfl⟩; rw [← hAx] at hR7 HLR; have HAX := Aside0.mk (show Ax.length = As.length + 1 by rw [hAx]; simp); clear hAx; obtain ⟨A7, n7, e7⟩ := Kd.R_slice hR7; subst e7; have HS7 := Aside0.mk (HS.out.1.appA hR7 hg7 hB7); have hd0 : w7.cell? ⟨ga, 0, none⟩ = some _ := (blk_cell HS7.out.bk 0).trans rfl; have hf0 := blk_frozen HS7.out.bk 0; clear hR7 hB7 hg7 hat7)
        have HS8 := Aside0.mk (HS7.out.set 0 (.slice A7 Ax.length n7) (.slice A7 Ax.length n7) vB vC rfl)
        obtain ⟨w8, hw8⟩ : ∃ W, W = w7.setCell ⟨ga, 0, none⟩ (Value.slice A7 Ax.length n7) := ⟨_, rfl⟩
        rw [← hw8] at HS8
        rw [← hw8]
        clear hw8 hd0 hf0 HS7 HS hcA k1 k1'
        obtain ⟨B7, m7, e8⟩ := Kd.R_slice HS8.out.rB
        obtain ⟨D7, l7, e9⟩ := Kd.R_slice HS8.out.rC
        subst e8
        subst e9
        have hi := HIM.out
        by_cases him : i = M
        · have g3 : ((i : Int) == (M : Int)) = true := beq_iff_eq.mpr (by omega)
          have g3' : (i == M) = true := beq_iff_eq.mpr him
          have hL := HLR.out
          rw [show M - i = 0 by omega, chR] at hL
          injection hL with hL
          injection hL with hL1 hL
          injection hL with hL2 hL3
          subst hL1 hL2 hL3
          have hcA : w8.cell? ⟨ga, 0, none⟩ = some (.slice A7 Ax.length n7) := (blk_cell HS8.out.bk 0).trans rfl
          have hcB : w8.cell? ⟨ga, 1, none⟩ = some (.slice B7 Cs.length m7) := (blk_cell HS8.out.bk 1).trans rfl
          have hcC : w8.cell? ⟨ga, 2, none⟩ = some (.slice D7 Ts.length l7) := (blk_cell HS8.out.bk 2).trans rfl
          clear hi him HIM
          have HC1 := Aside0.mk (Kd.R_reads' HS8.out.rA).2.2
          have HC2 := Aside0.mk (Kd.R_reads' HS8.out.rB).2.2
          have HC3 := Aside0.mk (Kd.R_reads' HS8.out.rC).2.2
          go_wp2_with (go_at_call 84; go_loud ((with_reducible refine (dof_calls k _ n7 Ax _ m7 Cs _ l7 Ts r w8 HC1.out HC2.out HC3.out (by have := HLN.out; omega) (by have := HLN.out; omega) (by have := HLN.out; have := HM.out; omega) HDL.out).mono ?_); rintro e1 w9 ⟨v9, rfl, hR9, hB9⟩; have HR9 := Aside0.mk (Kd.N_lower hR9 HS8.out.bel.size); have HB9 := Aside0.mk (below_step HS8.out.bel hB9); clear hR9 hB9))
          first | go_ret | go_ret2
          exact ⟨_, rfl, HR9.out, HB9.out⟩
        · have g3 : ((i : Int) == (M : Int)) = false := beq_eq_false_iff_ne.mpr (by omega)
          have g3' : (i == M) = false := beq_eq_false_iff_ne.mpr him
          obtain ⟨m, hm⟩ : ∃ m, M - i = m + 1 := ⟨M - i - 1, by omega⟩
          have hL := HLR.out
          rw [hm, chR] at hL
          obtain ⟨y1, hy1, hL⟩ := Option.bind_eq_some_iff.1 hL
          obtain ⟨z1, hz1, hL⟩ := Option.bind_eq_some_iff.1 hL
          have HY := Aside0.mk hy1
          have HZ1 := Aside0.mk hz1
          have HLL := Aside0.mk (show chL raw name (M - (i + 1)) (i + 1) (rollU raw (rollU raw (rollU raw u))) Ax (Cs ++ [z1 == 0]) (Ts ++ [attrsL y1 name]) = some (Ar, Cr, Tr) by rw [show M - (i + 1) = m by omega]; exact hL)
          have HYR := Aside0.mk (roll8_range hy1)
          have HU := Aside0.mk (show rollU raw u ≤ 3 * i + 1 by have := rollU_le raw u; have := HI.out; omega)
          have HU2 := Aside0.mk (show rollU raw (rollU raw u) ≤ 3 * i + 2 by have := rollU_le raw (rollU raw u); have := HU.out; omega)
          have HU3 := Aside0.mk (show rollU raw (rollU raw (rollU raw u)) ≤ 3 * i + 3 by have := rollU_le raw (rollU raw (rollU raw u)); have := HU2.out; omega)
          clear hL hy1 hz1 hm him hi
          go_upto_block 4 with (go_at_call 70; (with_reducible refine (HS8.out.roll_calls (by have := HU.out; have := HIM.out; have := HM.out; omega) HY.out).mono ?_); rintro e1 w9 ⟨rfl, hJ, _, _⟩; have HS9 := Aside0.mk hJ; clear hJ)
          go_cut [12] (fun v12 wx => Aside0 (ChS w ga gd raw (rollU raw (rollU raw u)) Ax Cs Ts (.slice A7 Ax.length n7) (.slice B7 Cs.length m7) (.slice D7 Ts.length l7) (.slice A7 Ax.length n7) (.slice B7 Cs.length m7) (.slice D7 Ts.length l7) (.slice none 0 0) wx ∧ Kd.R k38 38 wx w.heap.size (fun _ => True) v12 (attrsL y1 name)))
          case first =>
            by_cases q1 : y1 = 1
            · have q1b : (y1 == 1) = true := beq_iff_eq.mpr q1
              have HEQ := Aside0.mk (show attrsL y1 name = onL sBold from if_pos q1)
              clear q1
              go_wp2_with (go_at_call 83; with_reducible refine (chancerykeep1_on.calls (⟨#[98, 111, 108, 100]⟩ : ByteArray) (onL sBold) _ hon2).mono ?_; rintro e w10 ⟨v6, rfl, hR6, hb6⟩; have HR10 := Aside0.mk (Kd.R_lower hR6 HS9.out.bel.size); have HS10 := Aside0.mk (HS9.out.below hb6); clear hR6 hb6)
              go_meet
              case rel => exact ⟨HS10.out, by rw [HEQ.out]; exact HR10.out⟩
            have q1b : (y1 == 1) = false := beq_eq_false_iff_ne.mpr q1
            by_cases q2 : y1 = 2
            · have q2b : (y1 == 2) = true := beq_iff_eq.mpr q2
              have HEQ := Aside0.mk (show attrsL y1 name = [⟨sBold, sNil⟩] from (if_neg q1).trans (if_pos q2))
              clear q1 q2
              go_wp2_with (first | ((with_reducible refine gate_dst (N := 57) rfl ?_); refine Kd.R_lit k38 _ 38 ?hg (N := 57) ?hd (xs := ([(⟨(⟨#[98, 111, 108, 100]⟩ : ByteArray), (⟨#[]⟩ : ByteArray)⟩ : S38)] : List S38)) (inner := [.string (⟨#[98, 111, 108, 100]⟩ : ByteArray), .string (⟨#[]⟩ : ByteArray)]) (ok := fun _ => True) (okp := fun _ => True) ?hr ?hp (fun _ hk => hk) trivial (Below.refl _ _) (Nat.le_refl _) (by simp) ?_; (case hd => rfl); (case hg => rfl); (case hr => first | (go_simp; done) | (go_simp; rfl)); (case hp => exact (Reps.c2 (show Kd.M k38 _ _ _ (⟨(⟨#[98, 111, 108, 100]⟩ : ByteArray), (⟨#[]⟩ : ByteArray)⟩ : S38) [.string (⟨#[98, 111, 108, 100]⟩ : ByteArray), .string (⟨#[]⟩ : ByteArray)] from (k38_mkM _ _ _ (⟨(⟨#[98, 111, 108, 100]⟩ : ByteArray), (⟨#[]⟩ : ByteArray)⟩ : S38))) (Reps.none _ _))); intro v10_ w10 hR10 hb10 hg_ hnew_; have HR10 := Aside0.mk (Kd.R_lower hR10 HS9.out.bel.size); have HS10 := Aside0.mk (HS9.out.below hb10); clear hR10 hb10 hg_ hnew_))
              go_meet
              case rel => exact ⟨HS10.out, by rw [HEQ.out]; exact HR10.out⟩
            have q2b : (y1 == 2) = false := beq_eq_false_iff_ne.mpr q2
            by_cases q3 : y1 = 3
            · have q3b : (y1 == 3) = true := beq_iff_eq.mpr q3
              have HEQ := Aside0.mk (show attrsL y1 name = [⟨sBold, name⟩, ⟨name, sOn⟩] from (if_neg q1).trans ((if_neg q2).trans (if_pos q3)))
              clear q1 q2 q3
              go_wp2_with (first | ((with_reducible refine gate_dst (N := 64) rfl ?_); refine Kd.R_lit k38 _ 38 ?hg (N := 64) ?hd (xs := ([(⟨(⟨#[98, 111, 108, 100]⟩ : ByteArray), name⟩ : S38), (⟨name, (⟨#[111, 110]⟩ : ByteArray)⟩ : S38)] : List S38)) (inner := [.string (⟨#[98, 111, 108, 100]⟩ : ByteArray), .string name, .string name, .string (⟨#[111, 110]⟩ : ByteArray)]) (ok := fun _ => True) (okp := fun _ => True) ?hr ?hp (fun _ hk => hk) trivial (Below.refl _ _) (Nat.le_refl _) (by simp) ?_; (case hd => rfl); (case hg => rfl); (case hr => first | (go_simp; done) | (go_simp; rfl)); (case hp => exact (Reps.c2 (show Kd.M k38 _ _ _ (⟨(⟨#[98, 111, 108, 100]⟩ : ByteArray), name⟩ : S38) [.string (⟨#[98, 111, 108, 100]⟩ : ByteArray), .string name] from (k38_mkM _ _ _ (⟨(⟨#[98, 111, 108, 100]⟩ : ByteArray), name⟩ : S38))) (Reps.c2 (show Kd.M k38 _ _ _ (⟨name, (⟨#[111, 110]⟩ : ByteArray)⟩ : S38) [.string name, .string (⟨#[111, 110]⟩ : ByteArray)] from (k38_mkM _ _ _ (⟨name, (⟨#[111, 110]⟩ : ByteArray)⟩ : S38))) (Reps.none _ _)))); intro v10_ w10 hR10 hb10 hg_ hnew_; have HR10 := Aside0.mk (Kd.R_lower hR10 HS9.out.bel.size); have HS10 := Aside0.mk (HS9.out.below hb10); clear hR10 hb10 hg_ hnew_))
              go_meet
              case rel => exact ⟨HS10.out, by rw [HEQ.out]; exact HR10.out⟩
            have q3b : (y1 == 3) = false := beq_eq_false_iff_ne.mpr q3
            have HEQ := Aside0.mk (show attrsL y1 name = [] from (if_neg q1).trans ((if_neg q2).trans (if_neg q3)))
            clear q1 q2 q3
            go_wp2
            go_meet
            case rel => exact ⟨HS9.out, by rw [HEQ.out]; exact Kd.R_nil _ _ _ _ _⟩
          case rest =>
          obtain ⟨hC0, hV0⟩ := hcut.out
          obtain ⟨at_, hat⟩ : ∃ l, l = attrsL y1 name := ⟨_, rfl⟩
          rw [← hat] at hV0 HLL
          clear hat
          obtain ⟨A12, n12, e12⟩ := Kd.R_slice hV0
          subst e12
          obtain ⟨zb, hzb⟩ : ∃ b, (z1 == 0) = b := ⟨_, rfl⟩
          rw [hzb] at HLL
          obtain ⟨Cx, hCx⟩ : ∃ l, l = Cs ++ [zb] := ⟨_, rfl⟩
          obtain ⟨Tx, hTx⟩ : ∃ l, l = Ts ++ [at_] := ⟨_, rfl⟩
          rw [← hCx, ← hTx] at HLL
          have HCX := Aside0.mk hCx
          have HTX := Aside0.mk hTx
          have HIG := Aside0.mk (show gl + (i + 1) = M + 1 ∧ rollU raw (rollU raw (rollU raw u)) ≤ 3 * (i + 1) ∧ Ax.length = i + 1 ∧ Cx.length = i + 1 ∧ Tx.length = i + 1 by
            have h1 := HI.out
            have h2 := HU3.out
            have h3 := HAX.out
            rw [hCx, hTx, List.length_append, List.length_append, List.length_singleton, List.length_singleton]
            omega)
          have HCL := Aside0.mk (show Cs.length ≤ 1048576 ∧ Ts.length ≤ 1048576 by have := HI.out; have := HM.out; have := HIM.out; omega)
          have HWI := Aside0.mk (show wrap64 ((i : Int) + 1) = (i : Int) + 1 by have := HM.out; have := HIM.out; unfold wrap64; omega)
          have HC := Aside0.mk hC0.drew
          have HV := Aside0.mk (Kd.R_drew hV0)
          clear hC0 hV0 hCx hTx hcut HS9 HS8
          go_upto_region 22 with (fail)
          refine start_ (n := 16) (S := fun w' => w'.cell? ⟨ga, 1, none⟩ = some (.slice B7 Cs.length m7) ∧ w'.cell? ⟨ga, 2, none⟩ = some (.slice D7 Ts.length l7)) (ds := [13, 15]) #[false, false, false, false, false, false, false, false, false, false, false, false, false, false, false, false] (by kernel_rfl) rfl rfl ⟨((blk_cell HC.out.bk 1).trans rfl), ((blk_cell HC.out.bk 2).trans rfl)⟩ (fun hHeld => ?_)
          refine pure_ (i := 0) (N := some 65) (v := ?_) (a' := ?_) (bm 1 16) rfl rfl (by kernel_rfl) (fun _ _ _ h => h) (Or.inl ⟨by rfl, ?_⟩) ?_ ?_
          rotate_left
          · intro w'
            go_simp
            with_reducible rfl
          rotate_left
          · simp only [Act.put, List.setIfInBounds_toArray, List.set_cons_zero, List.set_cons_succ, i64_w, i32_w]
            rfl
          refine pure_ (i := 2) (N := some 67) (v := ?_) (a' := ?_) (bm 5 16) rfl rfl (by kernel_rfl) (fun _ _ _ h => h) (Or.inl ⟨by rfl, ?_⟩) ?_ ?_
          rotate_left
          · intro w'
            go_simp
            with_reducible rfl
          rotate_left
          · simp only [Act.put, List.setIfInBounds_toArray, List.set_cons_zero, List.set_cons_succ, i64_w, i32_w]
            rfl
          refine pure_ (i := 7) (N := some 72) (v := ?_) (a' := ?_) (bm 133 16) rfl rfl (by kernel_rfl) (fun _ _ _ h => h) (Or.inl ⟨by rfl, ?_⟩) ?_ ?_
          rotate_left
          · intro w'
            go_simp
            with_reducible rfl
          rotate_left
          · simp only [Act.put, List.setIfInBounds_toArray, List.set_cons_zero, List.set_cons_succ, i64_w, i32_w]
            rfl
          refine pure_ (i := 9) (N := some 74) (v := ?_) (a' := ?_) (bm 645 16) rfl rfl (by kernel_rfl) (fun _ _ _ h => h) (Or.inl ⟨by rfl, ?_⟩) ?_ ?_
          rotate_left
          · intro w'
            go_simp
            with_reducible rfl
          rotate_left
          · simp only [Act.put, List.setIfInBounds_toArray, List.set_cons_zero, List.set_cons_succ, i64_w, i32_w]
            rfl
          refine take_ (i := 1) (N := some 66) (v := ?_) (a' := ?_) (bm 647 16) rfl rfl (by kernel_rfl) (fun _ _ _ h => h) (Or.inl ⟨by rfl, ?_⟩) hHeld ?_ ?_
          rotate_left
          · rintro w' ⟨s0, s1⟩
            go_simp
            with_reducible rfl
          rotate_left
          · simp only [Act.put, List.setIfInBounds_toArray, List.set_cons_zero, List.set_cons_succ, i64_w, i32_w]
            rfl
          refine take_ (i := 8) (N := some 73) (v := ?_) (a' := ?_) (bm 903 16) rfl rfl (by kernel_rfl) (fun _ _ _ h => h) (Or.inl ⟨by rfl, ?_⟩) hHeld ?_ ?_
          rotate_left
          · rintro w' ⟨s0, s1⟩
            go_simp
            with_reducible rfl
          rotate_left
          · simp only [Act.put, List.setIfInBounds_toArray, List.set_cons_zero, List.set_cons_succ, i64_w, i32_w]
            rfl
          refine join_ (σ := Value × Value × Value) 4 (bm 6143 16) (fun s_ => [(68, .int .i64 z1), (69, .bool zb), (70, s_.1), (71, s_.2.1), (75, s_.2.2), (77, .pointer (some ⟨ga, 1, none⟩))]) (fun s_ w' => (w'.cell? ⟨ga, 1, none⟩ = some (.slice B7 Cs.length m7) ∧ w'.cell? ⟨ga, 2, none⟩ = some (.slice D7 Ts.length l7)) ∧ (ChS w ga gd raw (rollU raw (rollU raw (rollU raw u))) Ax Cx Ts (.slice A7 Ax.length n7) (.slice B7 Cs.length m7) (.slice D7 Ts.length l7) (.slice A7 Ax.length n7) (s_.2.1) (.slice D7 Ts.length l7) (.slice none 0 0) w') ∧ (Kd.R (Kd.slice 38 k38) 32 w' w.heap.size (fun _ => True) s_.2.2 [at_])) ?_ ?_
          rotate_left
          · intro hCont
            refine two_ (i := 3) (j := 10) (Ni := some 68) (Nj := some 75) (bm 911 16) (bm 1927 16) rfl rfl rfl rfl (by kernel_rfl) (by decide) (by decide) (fun K hK => ?_) (fun K hK => ?_)
            · skip
              refine goes_ Try.func70 (by kernel_rfl) rfl #[.pointer (some ⟨gd, 0, none⟩), .int .i64 8] (by rfl) rfl rfl (by simp only [List.map_toArray, List.map_cons, List.map_nil]; rfl) ?_
              with_reducible refine (HC.out.roll_calls (by have := HU2.out; have := HIM.out; have := HM.out; omega) HZ1.out).mono ?_
              rintro e w3_ ⟨rfl, hJ, hfr, hsz⟩
              refine ⟨_, rfl, ?_⟩
              obtain ⟨csd, hgd⟩ := HC.out.dice.typed
              have HV := Aside0.mk (r_keep HV.out hgd (by decide) hfr)
              have HC := Aside0.mk hJ
              clear hJ hfr hsz hgd
              refine hK.out _ _ ⟨((blk_cell HC.out.bk 1).trans rfl), ((blk_cell HC.out.bk 2).trans rfl)⟩ (fun hHeld => ?_)
              clear hK K
              refine norm_ (a' := ?_) ?_ ?_
              rotate_left
              · show Act.put _ (some 68) _ = _
                simp only [Act.put, List.setIfInBounds_toArray, List.set_cons_zero, List.set_cons_succ, i64_w, i32_w]
                rfl
              refine pure_ (i := 4) (N := some 69) (v := ?_) (a' := ?_) (bm 927 16) rfl rfl (by kernel_rfl) (fun _ _ _ h => h) (Or.inl ⟨by rfl, ?_⟩) ?_ ?_
              rotate_left
              · intro w'
                go_simp
                with_reducible rfl
              rotate_left
              · simp only [Act.put, List.setIfInBounds_toArray, List.set_cons_zero, List.set_cons_succ, i64_w, i32_w]
                rfl
              refine two_ (i := 5) (j := 10) (Ni := some 70) (Nj := some 75) (bm 959 16) (bm 1951 16) rfl rfl rfl rfl (by kernel_rfl) (by decide) (by decide) (fun K hK => ?_) (fun K hK => ?_)
              · skip
                refine Kd.R_lit_step Kd.bool (w0 := w) w.heap.size 4 (by rfl) (N := 70) rfl (xs := [zb]) (inner := [.bool zb]) (ok := fun _ => True) (okp := fun _ => True) ?hr ?hp (fun _ hk => hk) trivial HC.out.bel HC.out.bel.size (by simp) ?_
                case hr => first | (go_simp; done) | (go_simp; rfl)
                case hp => exact Reps.one rfl (Reps.none _ _)
                intro v5_ w5_ hR hB hg hn
                have HC := Aside0.mk (HC.out.made hg hB)
                have HV := Aside0.mk (Kd.R_grown HV.out hg (fun _ _ => by simp))
                obtain ⟨A5, c5, e5⟩ : ∃ A c, v5_ = .slice A 1 c := Kd.R_slice hR
                subst e5
                have H5 := Aside0.mk hR
                clear hR hB hg hn
                refine hK.out _ _ ⟨((blk_cell HC.out.bk 1).trans rfl), ((blk_cell HC.out.bk 2).trans rfl)⟩ (fun hHeld => ?_)
                clear hK K
                refine norm_ (a' := ?_) ?_ ?_
                rotate_left
                · show Act.put _ (some 70) _ = _
                  simp only [Act.put, List.setIfInBounds_toArray, List.set_cons_zero, List.set_cons_succ, i64_w, i32_w]
                  rfl
                refine two_ (i := 6) (j := 10) (Ni := some 71) (Nj := some 75) (bm 1023 16) (bm 1983 16) rfl rfl rfl rfl (by kernel_rfl) (by decide) (by decide) (fun K hK => ?_) (fun K hK => ?_)
                · skip
                  refine Kd.R_append_rows_step Kd.bool (w0 := w) w.heap.size (by rfl) (.tmp 66) (.tmp 70) 120 4 (.bool false) 1 rfl Try.underlying120 info4 rfl (by decide) (by decide) (.slice B7 Cs.length m7) Cs [zb] A5 1 c5 (fun _ => True) (fun _ => False) rfl rfl HC.out.rB (r_readsM H5.out) (fun _ _ h => h) (fun _ h => h.elim) (fun _ _ => trivial) HC.out.bel HC.out.bel.size (by have := HCL.out; omega) ?_
                  intro v6_ w6_ hR hB hg hat
                  have HV := Aside0.mk (r_other HV.out HC.out.rB (by decide) hg)
                  rw [← HCX.out] at hR
                  have HC := Aside0.mk (HC.out.appB hR hg hB)
                  clear hR hB hg hat
                  refine hK.out _ _ ⟨((blk_cell HC.out.bk 1).trans rfl), ((blk_cell HC.out.bk 2).trans rfl)⟩ (fun hHeld => ?_)
                  clear hK K
                  refine norm_ (a' := ?_) ?_ ?_
                  rotate_left
                  · show Act.put _ (some 71) _ = _
                    simp only [Act.put, List.setIfInBounds_toArray, List.set_cons_zero, List.set_cons_succ, i64_w, i32_w]
                    rfl
                  refine pure_ (i := 12) (N := some 77) (v := ?_) (a' := ?_) (bm 5119 16) rfl rfl (by kernel_rfl) (fun _ _ _ h => h) (Or.inl ⟨by rfl, ?_⟩) ?_ ?_
                  rotate_left
                  · intro w'
                    go_simp
                    with_reducible rfl
                  rotate_left
                  · simp only [Act.put, List.setIfInBounds_toArray, List.set_cons_zero, List.set_cons_succ, i64_w, i32_w]
                    rfl
                  refine one_ (i := 10) (N := some 75) (bm 6143 16) rfl rfl (by kernel_rfl) (by decide) (fun K hK => ?_)
                  refine Kd.R_lit_step (Kd.slice 38 k38) (w0 := w) w.heap.size 32 (by rfl) (N := 75) rfl (xs := [at_]) (inner := [.slice A12 at_.length n12]) (ok := fun _ => True) (okp := fun _ => True) ?hr ?hp (fun _ hk => hk) trivial HC.out.bel HC.out.bel.size (by simp) ?_
                  case hr => first | (go_simp; done) | (go_simp; rfl)
                  case hp => exact Reps.one ⟨_, rfl, HV.out⟩ (Reps.none _ _)
                  intro v10_ w10_ hR hB hg hn
                  have HC := Aside0.mk (HC.out.made hg hB)
                  obtain ⟨A10, c10, e10⟩ : ∃ A c, v10_ = .slice A 1 c := Kd.R_slice hR
                  subst e10
                  have HV := Aside0.mk hR
                  clear hR hB hg hn
                  refine hK.out _ _ ⟨((blk_cell HC.out.bk 1).trans rfl), ((blk_cell HC.out.bk 2).trans rfl)⟩ (fun hHeld => ?_)
                  clear hK K
                  refine norm_ (a' := ?_) ?_ ?_
                  rotate_left
                  · show Act.put _ (some 75) _ = _
                    simp only [Act.put, List.setIfInBounds_toArray, List.set_cons_zero, List.set_cons_succ, i64_w, i32_w]
                    rfl
                  exact norm_ (by simp only [putAll, Act.put, List.setIfInBounds_toArray, List.set_cons_zero, List.set_cons_succ]) (hCont (.slice A5 1 c5, v6_, .slice A10 1 c10) _ ⟨hHeld, HC.out, HV.out⟩)
                · skip
                  refine Kd.R_lit_step (Kd.slice 38 k38) (w0 := w) w.heap.size 32 (by rfl) (N := 75) rfl (xs := [at_]) (inner := [.slice A12 at_.length n12]) (ok := fun _ => True) (okp := fun _ => True) ?hr ?hp (fun _ hk => hk) trivial HC.out.bel HC.out.bel.size (by simp) ?_
                  case hr => first | (go_simp; done) | (go_simp; rfl)
                  case hp => exact Reps.one ⟨_, rfl, HV.out⟩ (Reps.none _ _)
                  intro v10_ w10_ hR hB hg hn
                  have HC := Aside0.mk (HC.out.made hg hB)
                  have H5 := Aside0.mk (Kd.R_grown H5.out hg (fun _ _ => by simp))
                  obtain ⟨A10, c10, e10⟩ : ∃ A c, v10_ = .slice A 1 c := Kd.R_slice hR
                  subst e10
                  have HV := Aside0.mk hR
                  clear hR hB hg hn
                  refine hK.out _ _ ⟨((blk_cell HC.out.bk 1).trans rfl), ((blk_cell HC.out.bk 2).trans rfl)⟩ (fun hHeld => ?_)
                  clear hK K
                  refine norm_ (a' := ?_) ?_ ?_
                  rotate_left
                  · show Act.put _ (some 75) _ = _
                    simp only [Act.put, List.setIfInBounds_toArray, List.set_cons_zero, List.set_cons_succ, i64_w, i32_w]
                    rfl
                  refine one_ (i := 6) (N := some 71) (bm 2047 16) rfl rfl (by kernel_rfl) (by decide) (fun K hK => ?_)
                  refine Kd.R_append_rows_step Kd.bool (w0 := w) w.heap.size (by rfl) (.tmp 66) (.tmp 70) 120 4 (.bool false) 1 rfl Try.underlying120 info4 rfl (by decide) (by decide) (.slice B7 Cs.length m7) Cs [zb] A5 1 c5 (fun _ => True) (fun _ => False) rfl rfl HC.out.rB (r_readsM H5.out) (fun _ _ h => h) (fun _ h => h.elim) (fun _ _ => trivial) HC.out.bel HC.out.bel.size (by have := HCL.out; omega) ?_
                  intro v6_ w6_ hR hB hg hat
                  have HV := Aside0.mk (r_other HV.out HC.out.rB (by decide) hg)
                  rw [← HCX.out] at hR
                  have HC := Aside0.mk (HC.out.appB hR hg hB)
                  clear hR hB hg hat
                  refine hK.out _ _ ⟨((blk_cell HC.out.bk 1).trans rfl), ((blk_cell HC.out.bk 2).trans rfl)⟩ (fun hHeld => ?_)
                  clear hK K
                  refine norm_ (a' := ?_) ?_ ?_
                  rotate_left
                  · show Act.put _ (some 71) _ = _
                    simp only [Act.put, List.setIfInBounds_toArray, List.set_cons_zero, List.set_cons_succ, i64_w, i32_w]
                    rfl
                  refine pure_ (i := 12) (N := some 77) (v := ?_) (a' := ?_) (bm 6143 16) rfl rfl (by kernel_rfl) (fun _ _ _ h => h) (Or.inl ⟨by rfl, ?_⟩) ?_ ?_
                  rotate_left
                  · intro w'
                    go_simp
                    with_reducible rfl
                  rotate_left
                  · simp only [Act.put, List.setIfInBounds_toArray, List.set_cons_zero, List.set_cons_succ, i64_w, i32_w]
                    rfl
                  exact norm_ (by simp only [putAll, Act.put, List.setIfInBounds_toArray, List.set_cons_zero, List.set_cons_succ]) (hCont (.slice A5 1 c5, v6_, .slice A10 1 c10) _ ⟨hHeld, HC.out, HV.out⟩)
              · skip
                refine Kd.R_lit_step (Kd.slice 38 k38) (w0 := w) w.heap.size 32 (by rfl) (N := 75) rfl (xs := [at_]) (inner := [.slice A12 at_.length n12]) (ok := fun _ => True) (okp := fun _ => True) ?hr ?hp (fun _ hk => hk) trivial HC.out.bel HC.out.bel.size (by simp) ?_
                case hr => first | (go_simp; done) | (go_simp; rfl)
                case hp => exact Reps.one ⟨_, rfl, HV.out⟩ (Reps.none _ _)
                intro v10_ w10_ hR hB hg hn
                have HC := Aside0.mk (HC.out.made hg hB)
                obtain ⟨A10, c10, e10⟩ : ∃ A c, v10_ = .slice A 1 c := Kd.R_slice hR
                subst e10
                have HV := Aside0.mk hR
                clear hR hB hg hn
                refine hK.out _ _ ⟨((blk_cell HC.out.bk 1).trans rfl), ((blk_cell HC.out.bk 2).trans rfl)⟩ (fun hHeld => ?_)
                clear hK K
                refine norm_ (a' := ?_) ?_ ?_
                rotate_left
                · show Act.put _ (some 75) _ = _
                  simp only [Act.put, List.setIfInBounds_toArray, List.set_cons_zero, List.set_cons_succ, i64_w, i32_w]
                  rfl
                refine one_ (i := 5) (N := some 70) (bm 1983 16) rfl rfl (by kernel_rfl) (by decide) (fun K hK => ?_)
                refine Kd.R_lit_step Kd.bool (w0 := w) w.heap.size 4 (by rfl) (N := 70) rfl (xs := [zb]) (inner := [.bool zb]) (ok := fun _ => True) (okp := fun _ => True) ?hr ?hp (fun _ hk => hk) trivial HC.out.bel HC.out.bel.size (by simp) ?_
                case hr => first | (go_simp; done) | (go_simp; rfl)
                case hp => exact Reps.one rfl (Reps.none _ _)
                intro v5_ w5_ hR hB hg hn
                have HC := Aside0.mk (HC.out.made hg hB)
                have HV := Aside0.mk (Kd.R_grown HV.out hg (fun _ _ => by simp))
                obtain ⟨A5, c5, e5⟩ : ∃ A c, v5_ = .slice A 1 c := Kd.R_slice hR
                subst e5
                have H5 := Aside0.mk hR
                clear hR hB hg hn
                refine hK.out _ _ ⟨((blk_cell HC.out.bk 1).trans rfl), ((blk_cell HC.out.bk 2).trans rfl)⟩ (fun hHeld => ?_)
                clear hK K
                refine norm_ (a' := ?_) ?_ ?_
                rotate_left
                · show Act.put _ (some 70) _ = _
                  simp only [Act.put, List.setIfInBounds_toArray, List.set_cons_zero, List.set_cons_succ, i64_w, i32_w]
                  rfl
                refine one_ (i := 6) (N := some 71) (bm 2047 16) rfl rfl (by kernel_rfl) (by decide) (fun K hK => ?_)
                refine Kd.R_append_rows_step Kd.bool (w0 := w) w.heap.size (by rfl) (.tmp 66) (.tmp 70) 120 4 (.bool false) 1 rfl Try.underlying120 info4 rfl (by decide) (by decide) (.slice B7 Cs.length m7) Cs [zb] A5 1 c5 (fun _ => True) (fun _ => False) rfl rfl HC.out.rB (r_readsM H5.out) (fun _ _ h => h) (fun _ h => h.elim) (fun _ _ => trivial) HC.out.bel HC.out.bel.size (by have := HCL.out; omega) ?_
                intro v6_ w6_ hR hB hg hat
                have HV := Aside0.mk (r_other HV.out HC.out.rB (by decide) hg)
                rw [← HCX.out] at hR
                have HC := Aside0.mk (HC.out.appB hR hg hB)
                clear hR hB hg hat
                refine hK.out _ _ ⟨((blk_cell HC.out.bk 1).trans rfl), ((blk_cell HC.out.bk 2).trans rfl)⟩ (fun hHeld => ?_)
                clear hK K
                refine norm_ (a' := ?_) ?_ ?_
                rotate_left
                · show Act.put _ (some 71) _ = _
                  simp only [Act.put, List.setIfInBounds_toArray, List.set_cons_zero, List.set_cons_succ, i64_w, i32_w]
                  rfl
                refine pure_ (i := 12) (N := some 77) (v := ?_) (a' := ?_) (bm 6143 16) rfl rfl (by kernel_rfl) (fun _ _ _ h => h) (Or.inl ⟨by rfl, ?_⟩) ?_ ?_
                rotate_left
                · intro w'
                  go_simp
                  with_reducible rfl
                rotate_left
                · simp only [Act.put, List.setIfInBounds_toArray, List.set_cons_zero, List.set_cons_succ, i64_w, i32_w]
                  rfl
                exact norm_ (by simp only [putAll, Act.put, List.setIfInBounds_toArray, List.set_cons_zero, List.set_cons_succ]) (hCont (.slice A5 1 c5, v6_, .slice A10 1 c10) _ ⟨hHeld, HC.out, HV.out⟩)
            · skip
              refine Kd.R_lit_step (Kd.slice 38 k38) (w0 := w) w.heap.size 32 (by rfl) (N := 75) rfl (xs := [at_]) (inner := [.slice A12 at_.length n12]) (ok := fun _ => True) (okp := fun _ => True) ?hr ?hp (fun _ hk => hk) trivial HC.out.bel HC.out.bel.size (by simp) ?_
              case hr => first | (go_simp; done) | (go_simp; rfl)
              case hp => exact Reps.one ⟨_, rfl, HV.out⟩ (Reps.none _ _)
              intro v10_ w10_ hR hB hg hn
              have HC := Aside0.mk (HC.out.made hg hB)
              obtain ⟨A10, c10, e10⟩ : ∃ A c, v10_ = .slice A 1 c := Kd.R_slice hR
              subst e10
              have HV := Aside0.mk hR
              clear hR hB hg hn
              refine hK.out _ _ ⟨((blk_cell HC.out.bk 1).trans rfl), ((blk_cell HC.out.bk 2).trans rfl)⟩ (fun hHeld => ?_)
              clear hK K
              refine norm_ (a' := ?_) ?_ ?_
              rotate_left
              · show Act.put _ (some 75) _ = _
                simp only [Act.put, List.setIfInBounds_toArray, List.set_cons_zero, List.set_cons_succ, i64_w, i32_w]
                rfl
              refine one_ (i := 3) (N := some 68) (bm 1935 16) rfl rfl (by kernel_rfl) (by decide) (fun K hK => ?_)
              refine goes_ Try.func70 (by kernel_rfl) rfl #[.pointer (some ⟨gd, 0, none⟩), .int .i64 8] (by rfl) rfl rfl (by simp only [List.map_toArray, List.map_cons, List.map_nil]; rfl) ?_
              with_reducible refine (HC.out.roll_calls (by have := HU2.out; have := HIM.out; have := HM.out; omega) HZ1.out).mono ?_
              rintro e w3_ ⟨rfl, hJ, hfr, hsz⟩
              refine ⟨_, rfl, ?_⟩
              obtain ⟨csd, hgd⟩ := HC.out.dice.typed
              have HV := Aside0.mk (r_keep HV.out hgd (by decide) hfr)
              have HC := Aside0.mk hJ
              clear hJ hfr hsz hgd
              refine hK.out _ _ ⟨((blk_cell HC.out.bk 1).trans rfl), ((blk_cell HC.out.bk 2).trans rfl)⟩ (fun hHeld => ?_)
              clear hK K
              refine norm_ (a' := ?_) ?_ ?_
              rotate_left
              · show Act.put _ (some 68) _ = _
                simp only [Act.put, List.setIfInBounds_toArray, List.set_cons_zero, List.set_cons_succ, i64_w, i32_w]
                rfl
              refine pure_ (i := 4) (N := some 69) (v := ?_) (a' := ?_) (bm 1951 16) rfl rfl (by kernel_rfl) (fun _ _ _ h => h) (Or.inl ⟨by rfl, ?_⟩) ?_ ?_
              rotate_left
              · intro w'
                go_simp
                with_reducible rfl
              rotate_left
              · simp only [Act.put, List.setIfInBounds_toArray, List.set_cons_zero, List.set_cons_succ, i64_w, i32_w]
                rfl
              refine one_ (i := 5) (N := some 70) (bm 1983 16) rfl rfl (by kernel_rfl) (by decide) (fun K hK => ?_)
              refine Kd.R_lit_step Kd.bool (w0 := w) w.heap.size 4 (by rfl) (N := 70) rfl (xs := [zb]) (inner := [.bool zb]) (ok := fun _ => True) (okp := fun _ => True) ?hr ?hp (fun _ hk => hk) trivial HC.out.bel HC.out.bel.size (by simp) ?_
              case hr => first | (go_simp; done) | (go_simp; rfl)
              case hp => exact Reps.one rfl (Reps.none _ _)
              intro v5_ w5_ hR hB hg hn
              have HC := Aside0.mk (HC.out.made hg hB)
              have HV := Aside0.mk (Kd.R_grown HV.out hg (fun _ _ => by simp))
              obtain ⟨A5, c5, e5⟩ : ∃ A c, v5_ = .slice A 1 c := Kd.R_slice hR
              subst e5
              have H5 := Aside0.mk hR
              clear hR hB hg hn
              refine hK.out _ _ ⟨((blk_cell HC.out.bk 1).trans rfl), ((blk_cell HC.out.bk 2).trans rfl)⟩ (fun hHeld => ?_)
              clear hK K
              refine norm_ (a' := ?_) ?_ ?_
              rotate_left
              · show Act.put _ (some 70) _ = _
                simp only [Act.put, List.setIfInBounds_toArray, List.set_cons_zero, List.set_cons_succ, i64_w, i32_w]
                rfl
              refine one_ (i := 6) (N := some 71) (bm 2047 16) rfl rfl (by kernel_rfl) (by decide) (fun K hK => ?_)
              refine Kd.R_append_rows_step Kd.bool (w0 := w) w.heap.size (by rfl) (.tmp 66) (.tmp 70) 120 4 (.bool false) 1 rfl Try.underlying120 info4 rfl (by decide) (by decide) (.slice B7 Cs.length m7) Cs [zb] A5 1 c5 (fun _ => True) (fun _ => False) rfl rfl HC.out.rB (r_readsM H5.out) (fun _ _ h => h) (fun _ h => h.elim) (fun _ _ => trivial) HC.out.bel HC.out.bel.size (by have := HCL.out; omega) ?_
              intro v6_ w6_ hR hB hg hat
              have HV := Aside0.mk (r_other HV.out HC.out.rB (by decide) hg)
              rw [← HCX.out] at hR
              have HC := Aside0.mk (HC.out.appB hR hg hB)
              clear hR hB hg hat
              refine hK.out _ _ ⟨((blk_cell HC.out.bk 1).trans rfl), ((blk_cell HC.out.bk 2).trans rfl)⟩ (fun hHeld => ?_)
              clear hK K
              refine norm_ (a' := ?_) ?_ ?_
              rotate_left
              · show Act.put _ (some 71) _ = _
                simp only [Act.put, List.setIfInBounds_toArray, List.set_cons_zero, List.set_cons_succ, i64_w, i32_w]
                rfl
              refine pure_ (i := 12) (N := some 77) (v := ?_) (a' := ?_) (bm 6143 16) rfl rfl (by kernel_rfl) (fun _ _ _ h => h) (Or.inl ⟨by rfl, ?_⟩) ?_ ?_
              rotate_left
              · intro w'
                go_simp
                with_reducible rfl
              rotate_left
              · simp only [Act.put, List.setIfInBounds_toArray, List.set_cons_zero, List.set_cons_succ, i64_w, i32_w]
                rfl
              exact norm_ (by simp only [putAll, Act.put, List.setIfInBounds_toArray, List.set_cons_zero, List.set_cons_succ]) (hCont (.slice A5 1 c5, v6_, .slice A10 1 c10) _ ⟨hHeld, HC.out, HV.out⟩)
          rintro ⟨v70_, v71_, v75_⟩ w12_ ⟨hS_, hC_, hV_⟩
          replace hC_ : ChS w ga gd raw (rollU raw (rollU raw (rollU raw u))) Ax Cx Ts (.slice A7 Ax.length n7) (.slice B7 Cs.length m7) (.slice D7 Ts.length l7) (.slice A7 Ax.length n7) (v71_) (.slice D7 Ts.length l7) (.slice none 0 0) w12_ := hC_
          replace hV_ : Kd.R (Kd.slice 38 k38) 32 w12_ w.heap.size (fun _ => True) v75_ [at_] := hV_
          clear HC HV
          obtain ⟨A10, c10, e10⟩ : ∃ A c, v75_ = .slice A 1 c := Kd.R_slice hV_
          subst e10
          obtain ⟨A6, n6, e6⟩ := Kd.R_slice hC_.rB
          subst e6
          have HC := Aside0.mk hC_
          have HV := Aside0.mk hV_
          have hHeld : w12_.cell? ⟨ga, 1, none⟩ = some (.slice B7 Cs.length m7) ∧ w12_.cell? ⟨ga, 2, none⟩ = some (.slice D7 Ts.length l7) := hS_
          clear hS_ hC_ hV_
          refine norm_ (a' := ?_) ?_ ?_
          rotate_left
          · simp only [putAll, Act.put, List.setIfInBounds_toArray, List.set_cons_zero, List.set_cons_succ]
            rfl
          refine one_ (i := 11) (N := some 76) (bm 8191 16) rfl rfl (by kernel_rfl) (by decide) (fun K hK => ?_)
          refine Kd.R_append_rows_step (Kd.slice 38 k38) (w0 := w) w.heap.size (by rfl) (.tmp 73) (.tmp 75) 121 32 (.slice none 0 0) 24 rfl Try.underlying121 info32 rfl (by decide) (by decide) (.slice D7 Ts.length l7) Ts [at_] A10 1 c10 (fun _ => True) (fun k => (True ∧ some k ≠ (Value.slice A10 1 c10).ownBlock) ∧ some k ≠ (Value.slice D7 Ts.length l7).ownBlock) rfl rfl HC.out.rC (r_readsM HV.out) (fun _ _ h => m_apart h HC.out.rC (by decide)) (fun _ hk => ⟨trivial, hk.2⟩) (fun _ _ => trivial) HC.out.bel HC.out.bel.size (by have := HCL.out; omega) ?_
          intro v11_ w11_ hR hB hg hat
          rw [← HTX.out] at hR
          obtain ⟨A11, n11, e11⟩ := Kd.R_slice hR
          subst e11
          have HC := Aside0.mk (HC.out.appC hR hg hB)
          have hd1 : w11_.cell? ⟨ga, 1, none⟩ = some _ := (blk_cell HC.out.bk 1).trans rfl
          have hf1 := blk_frozen HC.out.bk 1
          clear hR hB hg hat
          refine hK.out _ _ ⟨((blk_cell HC.out.bk 1).trans rfl), ((blk_cell HC.out.bk 2).trans rfl)⟩ (fun hHeld => ?_)
          clear hK K
          refine norm_ (a' := ?_) ?_ ?_
          rotate_left
          · show Act.put _ (some 76) _ = _
            simp only [Act.put, List.setIfInBounds_toArray, List.set_cons_zero, List.set_cons_succ, i64_w, i32_w]
            rfl
          refine last_ (i := 13) (N := none) (bm 16383 16) rfl rfl (by kernel_rfl) (by decide) (fun K hK => ?_)
          refine skip_ (w1 := ?_) (by rfl) rfl ?_ ?_
          rotate_left
          · go_simp
            rfl
          have HC := Aside0.mk (HC.out.set 1 (.slice A6 Cx.length n6) (.slice A7 Ax.length n7) (.slice A6 Cx.length n6) (.slice D7 Ts.length l7) rfl)
          have hd2 := (blk_cell HC.out.bk 2).trans rfl
          have hf2 := blk_frozen HC.out.bk 2
          refine hK.out _ _ ?_
          clear hK K
          refine pure_ (i := 14) (N := some 78) (v := ?_) (a' := ?_) (bm 32767 16) rfl rfl (by kernel_rfl) (fun _ _ _ h => h) (Or.inl ⟨by rfl, ?_⟩) ?_ ?_
          rotate_left
          · intro w'
            go_simp
            with_reducible rfl
          rotate_left
          · simp only [Act.put, List.setIfInBounds_toArray, List.set_cons_zero, List.set_cons_succ, i64_w, i32_w]
            rfl
          refine last_ (i := 15) (N := none) (bm 65535 16) rfl rfl (by kernel_rfl) (by decide) (fun K hK => ?_)
          refine skip_ (w1 := ?_) (by rfl) rfl ?_ ?_
          rotate_left
          · go_simp
            rfl
          have HC := Aside0.mk (HC.out.set 2 (.slice A11 Tx.length n11) (.slice A7 Ax.length n7) (.slice A6 Cx.length n6) (.slice A11 Tx.length n11) rfl)
          refine hK.out _ _ ?_
          clear hK K
          refine done_ (by kernel_rfl) ?_
          have wk := HWI.out
          go_wp2
          go_roundg gl
          case measure => omega
          case rel => exact ⟨i + 1, _, Ax, Cx, Tx, _, _, _, by simp [wk], HIG, HC, HLL⟩
def actU : List (List S84) → List Bool → List (List S38) → List Un
  | a :: As, c :: Cs, t :: Ts => a.map .add ++ (if c = true then [.cut] else [.keep t]) ++ actU As Cs Ts
  | a :: _, [], _ => a.map .add
  | _, _, _ => []
theorem dof_spec {A : Nat} (hA : A ≤ 1073741824) : ∀ (As : List (List S84)) (Cs : List Bool) (Ts : List (List S38)) (s : WD), WF A s → As.length = Cs.length + 1 → Ts.length = Cs.length → (∀ a ∈ As, ∀ x ∈ a, ElemOK x ∧ x.f2.length ≤ A) → (∀ t ∈ Ts, VA true t ∧ t.length ≤ A) →
    (wu s).length + (actU As Cs Ts).length ≤ 1073741823 → ∃ o, Ev (fun k => dofL k As Cs Ts s.out s.add s.cut) o ∧ FO A o ∧ E (units o) (wu s ++ actU As Cs Ts)
  | [], Cs, Ts, s, h, h1, _, _, _, _ => by simp at h1
  | a :: As, [], Ts, s, h, h1, h2, ha, ht, hl => by
    have hol := units_len h.ok
    have hwl := wu_len s
    rw [actU, List.length_map] at hl
    have hsa : WF A ⟨s.out, s.add ++ a, s.cut⟩ := ⟨h.ok, h.ord, h.last, pok_app h.add (pok_mem.2 (fun x hx => (ha a List.mem_cons_self x hx).1)), h.cut, h.att, fun y hy => by rcases List.mem_append.1 hy with hy | hy; exact h.atta y hy; exact (ha a List.mem_cons_self y hy).2⟩
    have hE : E (wu ⟨s.out, s.add ++ a, s.cut⟩) (wu s ++ a.map .add) := by
      have := (E.refl (units s.out ++ s.add.map .add)).app (E.swap s.cut.toNat a).symm
      simpa [wu, List.append_assoc] using this
    obtain ⟨f1, f2, f3, f4⟩ := flush_spec hsa (by rw [hE.len, List.length_append, List.length_map]; omega)
    refine ⟨_, Ev.congr (fun k => by rw [dofL, if_neg (by omega)]) (Ev.now _), f1, ?_⟩
    rw [f2]
    exact hE
  | a :: As, c :: Cs, [], s, h, _, h2, _, _, _ => by simp at h2
  | a :: As, c :: Cs, t :: Ts, s, h, h1, h2, ha, ht, hl => by
    have hol := units_len h.ok
    have hwl := wu_len s
    have hsc := h.cut
    rw [actU, List.length_append, List.length_append, List.length_map] at hl
    have hcl : (if c = true then [Un.cut] else [Un.keep t]).length = 1 := by split <;> rfl
    have hsa : WF A ⟨s.out, s.add ++ a, s.cut⟩ := ⟨h.ok, h.ord, h.last, pok_app h.add (pok_mem.2 (fun x hx => (ha a List.mem_cons_self x hx).1)), h.cut, h.att, fun y hy => by rcases List.mem_append.1 hy with hy | hy; exact h.atta y hy; exact (ha a List.mem_cons_self y hy).2⟩
    have hE : E (wu ⟨s.out, s.add ++ a, s.cut⟩) (wu s ++ a.map .add) := by
      have := (E.refl (units s.out ++ s.add.map .add)).app (E.swap s.cut.toNat a).symm
      simpa [wu, List.append_assoc] using this
    have hEl : (wu ⟨s.out, s.add ++ a, s.cut⟩).length = (wu s).length + a.length := by rw [hE.len, List.length_append, List.length_map]
    have h1' : As.length = Cs.length + 1 := by simpa using h1
    have h2' : Ts.length = Cs.length := by simpa using h2
    have ha' : ∀ b ∈ As, ∀ x ∈ b, ElemOK x ∧ x.f2.length ≤ A := fun b hb => ha b (List.mem_cons_of_mem _ hb)
    have ht' : ∀ u ∈ Ts, VA true u ∧ u.length ≤ A := fun u hu => ht u (List.mem_cons_of_mem _ hu)
    cases c with
    | true =>
      obtain ⟨w1, u1⟩ := cut_spec 1 hsa (by omega)
      obtain ⟨o, e2, fo, eu⟩ := dof_spec hA As Cs Ts ⟨s.out, s.add ++ a, s.cut + 1⟩ w1 h1' h2' ha' ht' (by rw [u1, List.length_append, hEl]; simp only [Int.toNat_one, List.length_replicate]; omega)
      refine ⟨o, Ev.congr (fun k => by rw [dofL, if_neg (by omega), if_pos rfl, w64 (by omega) (by omega)]) e2, fo, eu.trans ?_⟩
      rw [u1, actU, if_pos rfl]
      have := (hE.app (E.refl ([Un.cut] ++ actU As Cs Ts)))
      simpa [List.append_assoc] using this
    | false =>
      have core := keep_core 1 t hsa (ht t List.mem_cons_self).1 (ht t List.mem_cons_self).2 hA (by omega) (by rw [hEl]; omega)
      obtain ⟨f1, f2, f3, f4⟩ := flush_spec hsa (by rw [hEl]; omega)
      obtain ⟨b, hb, hbi⟩ := dofB_ev t f1 hA
      obtain ⟨w1, u1⟩ := core b hbi
      obtain ⟨o, e2, fo, eu⟩ := dof_spec hA As Cs Ts _ w1 h1' h2' ha' ht' (by rw [u1, List.length_append, hEl]; simp only [Int.toNat_one, List.length_replicate]; omega)
      refine ⟨o, Ev.congr (fun k => by rw [dofL, if_neg (by omega), if_neg (by decide)]) (Ev.bind hb e2), fo, eu.trans ?_⟩
      rw [u1, actU, if_neg (by decide)]
      have := (hE.app (E.refl ([Un.keep t] ++ actU As Cs Ts)))
      simpa [List.append_assoc] using this
theorem roll8_ev (raw : List Int) (u : Nat) : ∃ x, rollF raw u 8 = some x ∧ 0 ≤ x ∧ x ≤ 7 := by
  have : ∃ x, rollF raw u 8 = some x := by
    unfold rollF
    split
    · exact ⟨_, rfl⟩
    · rw [show wrap64 (8 - 1) = 7 by unfold wrap64; omega]
      obtain ⟨r, hr, _⟩ := within_ev (wrap64 (rd raw ((u % raw.length : Nat) : Int) + (((u + 1) / raw.length : Nat) : Int))) 7 (by omega) (by omega)
      exact ⟨r, hr⟩
  obtain ⟨x, hx⟩ := this
  exact ⟨x, hx, roll8_range hx⟩
structure NmOK (name : ByteArray) : Prop where
  nm : NameOK name
  val : ValOK name
  lt : Op.bytesLess sBold.toList name.toList = true
theorem on_ok : ValOK sOn := by
  refine ⟨by decide, by decide, fun i h0 h1 => ?_⟩
  have : i = 0 ∨ i = 1 := by have : sOn.size = 2 := rfl; omega
  rcases this with rfl | rfl <;> decide
theorem bold_ok : NameOK sBold := by
  refine ⟨by decide, by decide, fun i h0 h1 => ?_⟩
  have : i = 0 ∨ i = 1 ∨ i = 2 ∨ i = 3 := by have : sBold.size = 4 := rfl; omega
  rcases this with rfl | rfl | rfl | rfl <;> exact .inl (by decide)
theorem va_one {ch : Bool} {x : S38} (h : ElOK ch x) : VA ch [x] := ⟨fun y hy => by rw [List.mem_singleton.1 hy]; exact h, List.pairwise_singleton _ _⟩
theorem on_va {ch : Bool} {name : ByteArray} (h : NmOK name) : VA ch (onL name) := va_one ⟨h.nm, .inl on_ok⟩
theorem attrsL_ok (y : Int) {name : ByteArray} (h : NmOK name) : VA true (attrsL y name) ∧ (attrsL y name).length ≤ 2 := by
  unfold attrsL
  split
  · exact ⟨va_one ⟨bold_ok, .inl on_ok⟩, by simp [onL]⟩
  · split
    · exact ⟨va_one ⟨bold_ok, .inr ⟨rfl, rfl⟩⟩, by simp⟩
    · split
      · refine ⟨⟨fun x hx => ?_, ?_⟩, by simp⟩
        · simp only [List.mem_cons, List.not_mem_nil, or_false] at hx
          rcases hx with rfl | rfl
          · exact ⟨bold_ok, .inl h.val⟩
          · exact ⟨h.nm, .inl on_ok⟩
        · refine List.Pairwise.cons (fun y hy => ?_) (List.pairwise_singleton _ _)
          rw [List.mem_singleton.1 hy]
          exact h.lt
      · exact ⟨va_nil _, by simp⟩
theorem addsL_ok {name : ByteArray} (h : NmOK name) (i : Nat) : ∀ j, ∀ x ∈ addsL i name j, ElemOK x ∧ x.f2.length ≤ 2 ∧ x.f2 = onL name ∧ x.f1 = 0 ∧ 65 ≤ x.f0 ∧ x.f0 ≤ 90
  | 0, x, hx => by cases hx
  | j + 1, x, hx => by
    rw [addsL, List.mem_append] at hx
    rcases hx with hx | hx
    · exact addsL_ok h i j x hx
    · rw [List.mem_singleton.1 hx]
      have := q_lt i j
      exact ⟨⟨.inr ⟨rfl, by unfold CharOK; simp only; omega⟩, on_va h⟩, by simp [onL], rfl, rfl, by simp only; omega, by simp only; omega⟩
theorem chL_spec (raw : List Int) {name : ByteArray} (h : NmOK name) : ∀ (m i u : Nat) (As : List (List S84)) (Cs : List Bool) (Ts : List (List S38)), (∀ a ∈ As, a.length ≤ 2 ∧ ∀ x ∈ a, ElemOK x ∧ x.f2.length ≤ 2 ∧ x.f2 = onL name ∧ x.f1 = 0 ∧ 65 ≤ x.f0 ∧ x.f0 ≤ 90) → (∀ t ∈ Ts, VA true t ∧ t.length ≤ 2) →
    ∃ w, chL raw name m i u As Cs Ts = some w ∧ (∀ a ∈ w.1, a.length ≤ 2 ∧ ∀ x ∈ a, ElemOK x ∧ x.f2.length ≤ 2 ∧ x.f2 = onL name ∧ x.f1 = 0 ∧ 65 ≤ x.f0 ∧ x.f0 ≤ 90) ∧ (∀ t ∈ w.2.2, VA true t ∧ t.length ≤ 2)
  | 0, i, u, As, Cs, Ts, ha, ht => by
    obtain ⟨x, hx, h0, h7⟩ := roll8_ev raw u
    refine ⟨_, by rw [chL, hx]; rfl, fun a hm => ?_, ht⟩
    rcases List.mem_append.1 hm with hm | hm
    · exact ha a hm
    · rw [List.mem_singleton.1 hm]
      exact ⟨by rw [addsL_len]; omega, addsL_ok h i _⟩
  | m + 1, i, u, As, Cs, Ts, ha, ht => by
    obtain ⟨x, hx, h0, h7⟩ := roll8_ev raw u
    obtain ⟨y, hy, _⟩ := roll8_ev raw (rollU raw u)
    obtain ⟨z, hz, _⟩ := roll8_ev raw (rollU raw (rollU raw u))
    obtain ⟨t, e, h1, h2⟩ := chL_spec raw h m (i + 1) (rollU raw (rollU raw (rollU raw u))) (As ++ [addsL i name (x - 5).toNat]) (Cs ++ [z == 0]) (Ts ++ [attrsL y name])
      (fun a hm => by
        rcases List.mem_append.1 hm with hm | hm
        · exact ha a hm
        · rw [List.mem_singleton.1 hm]
          exact ⟨by rw [addsL_len]; omega, addsL_ok h i _⟩)
      (fun t hm => by
        rcases List.mem_append.1 hm with hm | hm
        · exact ht t hm
        · rw [List.mem_singleton.1 hm]
          exact attrsL_ok y h)
    exact ⟨t, by rw [chL, hx, Option.bind_some, hy, Option.bind_some, hz, Option.bind_some]; exact e, h1, h2⟩
theorem actU_counts : ∀ (As : List (List S84)) (Cs : List Bool) (Ts : List (List S38)), As.length = Cs.length + 1 → Ts.length = Cs.length → (∀ a ∈ As, a.length ≤ 2) → nold (actU As Cs Ts) = Cs.length ∧ (actU As Cs Ts).length ≤ 3 * Cs.length + 2
  | [], Cs, Ts, h1, _, _ => by simp at h1
  | a :: As, [], Ts, _, _, ha => by have := ha a List.mem_cons_self; rw [actU, nold_adds, List.length_map]; exact ⟨rfl, by simp; omega⟩
  | a :: As, c :: Cs, [], _, h2, _ => by simp at h2
  | a :: As, c :: Cs, t :: Ts, h1, h2, ha => by
    have := ha a List.mem_cons_self
    have ih := actU_counts As Cs Ts (by simpa using h1) (by simpa using h2) (fun b hb => ha b (List.mem_cons_of_mem _ hb))
    rw [actU, nold_app, nold_app, nold_adds, List.length_append, List.length_append, List.length_map, List.length_cons]
    cases c <;> simp [nold] <;> omega
structure ChOK (name : ByteArray) (n : Nat) (o : List S70) : Prop where
  fo : FO 2 o
  ex : ∃ As Cs Ts, E (units o) (actU As Cs Ts) ∧ As.length = Cs.length + 1 ∧ Ts.length = Cs.length ∧ Cs.length = n ∧ (∀ a ∈ As, a.length ≤ 2 ∧ ∀ x ∈ a, ElemOK x ∧ x.f2.length ≤ 2 ∧ x.f2 = onL name ∧ x.f1 = 0 ∧ 65 ≤ x.f0 ∧ x.f0 ≤ 90) ∧ (∀ t ∈ Ts, VA true t ∧ t.length ≤ 2)
theorem change_ev (n : Nat) (raw : List Int) {name : ByteArray} (h : NmOK name) (hn : n ≤ 1048576) : ∃ o, Ev (fun k => changeF k (n : Int) raw name) o ∧ ChOK name n o := by
  obtain ⟨t, e, h1, h2⟩ := chL_spec raw h n 0 0 [] [] [] (fun a ha => by cases ha) (fun a ha => by cases ha)
  have hlen := chL_len _ _ _ _ _ _ _ _ _ e
  simp only [List.length_nil] at hlen
  have hc := actU_counts t.1 t.2.1 t.2.2 (by omega) (by omega) (fun a ha => (h1 a ha).1)
  obtain ⟨o, e2, fo, eu⟩ := dof_spec (A := 2) (by omega) t.1 t.2.1 t.2.2 ⟨[], [], 0⟩ (WF.nil 2) (by omega) (by omega) (fun a ha x hx => ⟨((h1 a ha).2 x hx).1, ((h1 a ha).2 x hx).2.1⟩) h2 (by show 0 + _ ≤ _; omega)
  exact ⟨o, Ev.congr (fun k => by rw [changeF, if_pos (by omega), Int.toNat_natCast, e, Option.bind_some]) e2, fo, t.1, t.2.1, t.2.2, eu, by omega, by omega, by omega, h1, h2⟩
theorem ChOK.counts {name : ByteArray} {n : Nat} {o : List S70} (h : ChOK name n o) : nold (units o) = n ∧ (units o).length ≤ 3 * n + 2 := by
  obtain ⟨As, Cs, Ts, eu, h1, h2, h3, h4, h5⟩ := h.ex
  have := actU_counts As Cs Ts h1 h2 (fun a ha => (h4 a ha).1)
  rw [eu.old, eu.len]
  omega
theorem let_ab : chancerykeep1_letters.f 20 (⟨#[97, 98]⟩ : ByteArray) = some [⟨97, 0, []⟩, ⟨98, 0, []⟩] := by kernel_rfl
theorem let_x : chancerykeep1_letters.f 20 (⟨#[120]⟩ : ByteArray) = some [⟨120, 0, []⟩] := by kernel_rfl
theorem let_xb : chancerykeep1_letters.f 20 (⟨#[120, 98]⟩ : ByteArray) = some [⟨120, 0, []⟩, ⟨98, 0, []⟩] := by kernel_rfl
theorem app_ab : delta_Apply.f 40 [⟨97, 0, []⟩, ⟨98, 0, []⟩] [⟨1, 0, [], [⟨120, 0, []⟩]⟩, ⟨2, 1, [], []⟩, ⟨0, 1, [], []⟩] = some ([⟨120, 0, []⟩, ⟨98, 0, []⟩], 0) := by kernel_rfl
theorem same_xb : chanceryref1_SameFlow.f 40 [⟨120, 0, []⟩, ⟨98, 0, []⟩] [⟨120, 0, []⟩, ⟨98, 0, []⟩] = some true := by kernel_rfl
set_option maxRecDepth 100000 in
set_option maxHeartbeats 800000 in
theorem deltas_calls (w : World) : Calls Try.prog 41 #[] w fun e w' => e = .returned (.bool true) ∧ Below w.heap.size w w' := by
  have hu70 := Try.underlying70
  have HB0 := Aside0.mk (Below.refl w.heap.size w)
  obtain ⟨la, hla⟩ : ∃ l : List S84, l = [⟨97, 0, []⟩, ⟨98, 0, []⟩] := ⟨_, rfl⟩
  obtain ⟨lx, hlx⟩ : ∃ l : List S84, l = [⟨120, 0, []⟩] := ⟨_, rfl⟩
  obtain ⟨lr, hlr⟩ : ∃ l : List S84, l = [⟨120, 0, []⟩, ⟨98, 0, []⟩] := ⟨_, rfl⟩
  have H1 := Aside0.mk let_ab
  have H2 := Aside0.mk let_x
  have H3 := Aside0.mk app_ab
  have H4 := Aside0.mk let_xb
  have H5 := Aside0.mk same_xb
  rw [← hla] at H1 H3
  rw [← hlx] at H2 H3
  obtain ⟨ld, hld⟩ : ∃ l : List S70, l = [⟨1, 0, [], lx⟩, ⟨2, 1, [], []⟩, ⟨0, 1, [], []⟩] := ⟨_, rfl⟩
  rw [← hld] at H3
  have HLD := Aside0.mk hld
  clear hld
  rw [← hlr] at H3 H4 H5
  clear hla hlx hlr
  go_enter Try.func41, Try.ntmps41
  go_upto_region 2 with (first
    | (go_at_call 81; with_reducible refine (chancerykeep1_letters.calls 20 _ la _ H1.out).mono ?_; rintro e w1 ⟨v1, rfl, hN1, hb1⟩; obtain ⟨A1, n1, rfl⟩ := Kd.S_slice hN1; have HN1 := Aside0.mk hN1; have HB1 := Aside0.mk hb1; clear hN1 hb1)
    | (go_at_call 81; with_reducible refine (chancerykeep1_letters.calls 20 _ lx _ H2.out).mono ?_; rintro e w2 ⟨v2, rfl, hN2, hb2⟩; obtain ⟨A2, n2, rfl⟩ := Kd.S_slice hN2; have HN2 := Aside0.mk hN2; have HB2 := Aside0.mk (below_step HB1.out hb2); have HN1' := Aside0.mk (Kd.S_below HN1.out hb2); clear hN2 hb2 HN1)
    | ((with_reducible refine gate_dst (N := 9) rfl ?_); refine Kd.N_lit k70 w2.heap.size 70 ?hg (N' := 9) ?hd (xs := [⟨1, 0, [], lx⟩, ⟨2, 1, [], []⟩, ⟨0, 1, [], []⟩]) (inner := [.int .i64 1, .int .i64 0, .slice none 0 0, .slice A2 lx.length n2, .int .i64 2, .int .i64 1, .slice none 0 0, .slice none 0 0, .int .i64 0, .int .i64 1, .slice none 0 0, .slice none 0 0]) (ok := fun _ => True) (okp := fun _ => True) ?hr ?hp (fun _ hk => hk) trivial (Below.refl _ _) (Nat.le_refl _) (by simp) ?_; (case hd => rfl); (case hg => rfl); (case hr => first | (go_simp; done) | (go_simp; rfl)); (case hp => exact Reps.c4 (k70_mkF _ _ ⟨1, 0, [], lx⟩ (Nat.le_refl 0) (Kd.F_nil _ _ _) (Kd.N_reads' (Kd.S_N HN2.out)).2.1 (Kd.S_F HN2.out)) (Reps.c4 (k70_mkF _ _ ⟨2, 1, [], []⟩ (Nat.le_refl 0) (Kd.F_nil _ _ _) (Nat.le_refl 0) (Kd.F_nil _ _ _)) (Reps.c4 (k70_mkF _ _ ⟨0, 1, [], []⟩ (Nat.le_refl 0) (Kd.F_nil _ _ _) (Nat.le_refl 0) (Kd.F_nil _ _ _)) (Reps.none _ _)))); intro v3 w3 hN3 hb3 hg3 hat3; rw [← HLD.out] at hN3; obtain ⟨A3, n3, rfl⟩ := Kd.N_slice hN3; have HN3 := Aside0.mk hN3; have HB3 := Aside0.mk (below_step HB2.out hb3); have HN1 := Aside0.mk (Kd.S_below HN1'.out hb3); clear hN3 hb3 hg3 hat3 HN1')
    | (go_at_call 48; with_reducible refine (delta_Apply.calls 40 (fun _ => True) A1 n1 la A3 n3 ld lr 0 _ (Kd.S_V HN1.out) (Kd.N_reads' HN3.out).2.2 (Kd.N_reads' HN3.out).2.1 H3.out).mono ?_; rintro e w4 ⟨v4, rfl, hN4, hb4⟩; obtain ⟨A4, n4, rfl⟩ := Kd.N_slice hN4; have HN4 := Aside0.mk hN4; have HB4 := Aside0.mk (below_step HB3.out hb4); clear hN4 hb4))
  go_wp2_with (first
    | (go_at_call 81; with_reducible refine (chancerykeep1_letters.calls 20 _ lr _ H4.out).mono ?_; rintro e w5 ⟨v5, rfl, hN5, hb5⟩; obtain ⟨A5, n5, rfl⟩ := Kd.S_slice hN5; have HN5 := Aside0.mk hN5; have HB5 := Aside0.mk (below_step HB4.out hb5); have HN4' := Aside0.mk (Kd.N_below HN4.out hb5); clear hN5 hb5 HN4)
    | (go_at_call 50; with_reducible refine (chanceryref1_SameFlow.calls 40 A4 n4 lr A5 n5 lr true _ (Kd.N_reads' HN4'.out).2.2 (Kd.N_reads' HN4'.out).2.1 (Kd.N_reads' (Kd.S_N HN5.out)).2.2 (Kd.N_reads' (Kd.S_N HN5.out)).2.1 H5.out).mono ?_; rintro e w6 ⟨rfl, hb6⟩; have HB6 := Aside0.mk (below_step HB5.out hb6); clear hb6))
  go_ret
  exact ⟨rfl, HB6.out⟩
theorem drawn_below {w w' : World} (h : Drawn0 w w') : Below w.heap.size w w' := by
  obtain ⟨n, rfl⟩ := h
  exact pw_below_drewN (Below.refl _ _) n
def FFine (f : List S84) : Prop := f.length ≤ 1048576 ∧ ∀ x ∈ f, Small x.f2 ∧ x.f2.length ≤ 1048576
theorem FFine.fsmall {f : List S84} (h : FFine f) : FSmall f := ⟨by have := h.1; omega, fun x hx => ⟨(h.2 x hx).1, by have := (h.2 x hx).2; omega⟩⟩
def DFine (d : List S70) : Prop := d.length ≤ 1048576 ∧ (d.map (fun s => s.f3.length)).sum ≤ 1048576 ∧ ∀ s ∈ d, Small s.f2 ∧ s.f2.length ≤ 1048576 ∧ FFine s.f3
theorem DFine.dsm {d : List S70} (h : DFine d) : DSm d := ⟨by have := h.1; omega, fun s hs => ⟨(h.2.2 s hs).1, (h.2.2 s hs).2.2.fsmall⟩⟩
theorem us_len2 {s : S70} (h : StepOK s) : (us s).length = nold (us s) + s.f3.length := by
  rcases h with h | h | h
  · rw [us_keep h.1, nold_keeps, List.length_replicate, h.2.2.2.1]; rfl
  · rw [us_add h.1, nold_adds, List.length_map]; omega
  · rw [us_cut h.1, nold_cuts, List.length_replicate, h.2.2.2.1]; rfl
theorem x_ok : NmOK (⟨#[120]⟩ : ByteArray) := by
  refine ⟨⟨by decide, by decide, fun i h0 h1 => ?_⟩, ⟨by decide, by decide, fun i h0 h1 => ?_⟩, by decide +kernel⟩
  · have : i = 0 := by have : (⟨#[120]⟩ : ByteArray).size = 1 := rfl; omega
    subst this
    exact .inl (by decide)
  · have : i = 0 := by have : (⟨#[120]⟩ : ByteArray).size = 1 := rfl; omega
    subst this
    decide
theorem rd70_mem_ {l : List S70} {i : Nat} (h : i < l.length) : rd_T70 l (i : Int) ∈ l := by
  simp only [rd_T70, Int.toNat_natCast, List.getD_eq_getElem?_getD, List.getElem?_eq_getElem h, Option.getD_some]
  exact List.getElem_mem h
def sameD.T6 : Bool × List (List Nat × List Nat) := (true, [([], []), ([], []), ([0, 1], [0, 1]), ([2], [2]), ([3], [3]), ([], []), ([], []), ([5, 6], [5, 6]), ([7], [7]), ([8], [8]), ([4, 9], [4, 9]), ([10], [10]), ([11], [11]), ([11], [11]), ([12, 13, 11], [11, 12, 13]), ([14, 11], [11, 14]), ([15, 11], [11, 15]), ([11], [11]), ([11], [11]), ([17, 18, 11], [11, 17, 18]), ([19, 11], [11, 19]), ([20, 11], [11, 20]), ([16, 21, 11], [11, 16, 21]), ([11, 22], [11, 22]), ([23, 11], [23]), ([24], [24]), ([24], [24]), ([25, 26, 24], [24, 25, 26]), ([27, 24], [24, 27]), ([28, 24], [24, 28]), ([24], [24]), ([24], [24]), ([30, 31, 24], [24, 30, 31]), ([32, 24], [24, 32]), ([33, 24], [24, 33]), ([29, 34, 24, 24], [24, 29, 34]), ([35, 24], [24, 35]), ([24, 36], [24, 36]), ([37, 35], [37]), ([38], [38]), ([38], [38]), ([39, 40, 38], [38, 39, 40]), ([41, 38], [38, 41]), ([42, 38], [38, 42]), ([38], [38]), ([38], [38]), ([44, 45, 38], [38, 44, 45]), ([46, 38], [38, 46]), ([47, 38], [38, 47]), ([43, 48, 38, 38], [38, 43, 48]), ([49, 38], [38, 49]), ([38, 50], [38, 50])])
def sameD.B6 : List Nat := [0, 0, 3, 7, 15, 0, 0, 96, 224, 480, 1023, 2047, 4095, 4095, 16383, 32767, 65535, 4095, 4095, 397311, 921599, 1970175, 4194303, 8388607, 16777215, 33554431, 33554431, 134217727, 268435455, 536870911, 33554431, 33554431, 3254779903, 7549747199, 16139681791, 34359738367, 68719476735, 137438953471, 274877906943, 549755813887, 549755813887, 2199023255551, 4398046511103, 8796093022207, 549755813887, 549755813887, 53326313947135, 123695058124799, 264432546480127, 562949953421311, 1125899906842623, 2251799813685247]
theorem sameD.tab6 : rtab .any (opsOf Try.f45 6) = sameD.T6 := by kernel_rfl
theorem sameD.bits6 : waitsOk sameD.T6.2 sameD.B6 = true := by kernel_rfl
set_option maxRecDepth 100000 in
set_option maxHeartbeats 4000000 in
theorem sameD_calls (k : Nat) (A0 : Option Addr) (c0 : Nat) (A1 : Option Addr) (c1 : Nat) (l : List S70) (w : World) (hr0 : Kd.C k70 w A0 l.length l) (hc0 : l.length ≤ c0) (hr1 : Kd.C k70 w A1 l.length l) (hc1 : l.length ≤ c1) (hl : l.length ≤ 1099511627776)
    (h : ∀ x ∈ l, chanceryref1_SameAttrs.f k x.f2 x.f2 = some true ∧ chanceryref1_SameFlow.f k x.f3 x.f3 = some true) :
    Calls Try.prog 45 #[.slice A0 l.length c0, .slice A1 l.length c1] w fun e w' => e = .returned (.bool true) ∧ Below w.heap.size w w' := by
  have hu70 := Try.underlying70
  have HR0 := Aside0.mk hr0
  have HC0 := Aside0.mk hc0
  have HR1 := Aside0.mk hr1
  have HC1 := Aside0.mk hc1
  have HL := Aside0.mk hl
  have H := Aside0.mk h
  clear hr0 hc0 hr1 hc1 hl h
  have HB0 := Aside0.mk (Below.refl w.heap.size w)
  go_enter Try.func45, Try.ntmps45
  go_wp2
  go_loopg [13] l.length (fun m v13 wr => ∃ (i : Nat), v13 = .int .i64 (i : Int) ∧ Aside0 (m + i = l.length) ∧ Aside0 (Below w.heap.size w wr))
  case atStart => exact ⟨0, rfl, ⟨rfl⟩, HB0⟩
  case round =>
    clear HB0
    obtain ⟨i, rfl, HI, HB⟩ := hrel
    by_cases d2 : i < l.length
    rotate_left
    · have g1 : decide ((i : Int) < (l.length : Int)) = false := decide_eq_false (by omega)
      have g1' : decide (i < l.length) = false := decide_eq_false d2
      go_wp2
      first | go_ret | go_ret2
      exact ⟨rfl, HB.out⟩
    obtain ⟨gl, rfl⟩ : ∃ gl, gk = gl + 1 := ⟨gk - 1, by have := HI.out; omega⟩
    have g1 : decide ((i : Int) < (l.length : Int)) = true := decide_eq_true (by omega)
    have g1' : decide (i < l.length) = true := decide_eq_true d2
    have q1 : (i : Int) < (l.length : Int) := by omega
    obtain ⟨ad0, A2, c2, A3, c3, e0, hx0, hx1, hx2, hx3, hl2, hg2, hl3, hg3⟩ := at_T70 HR0.out (i : Int) (by omega) q1
    obtain ⟨ad1, B2, m2, B3, m3, e1, hy0, hy1, hy2, hy3, hk2, hj2, hk3, hj3⟩ := at_T70 HR1.out (i : Int) (by omega) q1
    cases e0
    cases e1
    have HX := Aside0.mk (H.out _ (rd70_mem_ d2))
    obtain ⟨x, hx⟩ : ∃ x, x = rd_T70 l (i : Int) := ⟨_, rfl⟩
    rw [← hx] at hx0 hx1 hx2 hx3 hy0 hy1 hy2 hy3 hl2 hg2 hl3 hg3 hk2 hj2 hk3 hj3 HX
    simp only [Int.toNat_natCast] at hx0 hx1 hx2 hx3 hy0 hy1 hy2 hy3
    have HG2 := Aside0.mk hg2
    have HG3 := Aside0.mk hg3
    have HJ2 := Aside0.mk hj2
    have HJ3 := Aside0.mk hj3
    have HLS := Aside0.mk (And.intro (And.intro hl2 hl3) (And.intro hk2 hk3))
    have HWI := Aside0.mk (show wrap64 ((i : Int) + 1) = (i : Int) + 1 by have := HL.out; unfold wrap64; omega)
    have HIG := Aside0.mk (show gl + (i + 1) = l.length by have := HI.out; omega)
    clear hx hg2 hg3 hj2 hj3 hl2 hl3 hk2 hk3 d2
    have HBD := Aside0.mk (below_drew1 HB.out)
    go_upto_region 6 with (fail)
    refine start_ (n := 52) (S := fun w' => w'.cell? (ad0.add (i * 4)) = some (.int .i64 x.f0) ∧ w'.cell? ⟨(ad0.add (i * 4)).block, (ad0.add (i * 4)).off + 1, none⟩ = some (.int .i64 x.f1) ∧ w'.cell? ⟨(ad0.add (i * 4)).block, (ad0.add (i * 4)).off + 2, none⟩ = some (.slice A2 x.f2.length c2) ∧ w'.cell? ⟨(ad0.add (i * 4)).block, (ad0.add (i * 4)).off + 3, none⟩ = some (.slice A3 x.f3.length c3) ∧ w'.cell? (ad1.add (i * 4)) = some (.int .i64 x.f0) ∧ w'.cell? ⟨(ad1.add (i * 4)).block, (ad1.add (i * 4)).off + 1, none⟩ = some (.int .i64 x.f1) ∧ w'.cell? ⟨(ad1.add (i * 4)).block, (ad1.add (i * 4)).off + 2, none⟩ = some (.slice B2 x.f2.length m2) ∧ w'.cell? ⟨(ad1.add (i * 4)).block, (ad1.add (i * 4)).off + 3, none⟩ = some (.slice B3 x.f3.length m3)) (ds := [49]) #[false, false, false, false, false, false, false, false, false, false, false, false, false, false, false, false, false, false, false, false, false, false, false, false, false, false, false, false, false, false, false, false, false, false, false, false, false, false, false, false, false, false, false, false, false, false, false, false, false, false, false, false] (by kernel_rfl) rfl rfl ⟨((HBD.out.cell (World.block_lt_of_cell? w _ hx0)).trans hx0), ((HBD.out.cell (World.block_lt_of_cell? w _ hx1)).trans hx1), ((HBD.out.cell (World.block_lt_of_cell? w _ hx2)).trans hx2), ((HBD.out.cell (World.block_lt_of_cell? w _ hx3)).trans hx3), ((HBD.out.cell (World.block_lt_of_cell? w _ hy0)).trans hy0), ((HBD.out.cell (World.block_lt_of_cell? w _ hy1)).trans hy1), ((HBD.out.cell (World.block_lt_of_cell? w _ hy2)).trans hy2), ((HBD.out.cell (World.block_lt_of_cell? w _ hy3)).trans hy3)⟩ (fun hHeld => ?_)
    refine with_tabW sameD.tab6 sameD.bits6 (fun HT_ HW_ => ?_)
    refine pure_ (i := 0) (N := some 16) (v := ?_) (a' := ?_) (bm 1 52) rfl rfl (any_of HT_.out (by kernel_rfl)) (fun _ _ _ h => h) (Or.inl ⟨by rfl, ?_⟩) ?_ ?_
    rotate_left
    · intro w'
      go_simp
      with_reducible rfl
    rotate_left
    · simp only [Act.put, List.setIfInBounds_toArray, List.set_cons_zero, List.set_cons_succ, i64_w, i32_w]
      rfl
    refine pure_ (i := 1) (N := some 17) (v := ?_) (a' := ?_) (bm 3 52) rfl rfl (any_of HT_.out (by kernel_rfl)) (fun _ _ _ h => h) (Or.inl ⟨by rfl, ?_⟩) ?_ ?_
    rotate_left
    · intro w'
      go_simp
      with_reducible rfl
    rotate_left
    · simp only [Act.put, List.setIfInBounds_toArray, List.set_cons_zero, List.set_cons_succ, i64_w, i32_w]
      rfl
    refine pure_ (i := 2) (N := some 18) (v := ?_) (a' := ?_) (bm 7 52) rfl rfl (any_of HT_.out (by kernel_rfl)) (fun _ _ _ h => h) (Or.inl ⟨by rfl, ?_⟩) ?_ ?_
    rotate_left
    · intro w'
      go_simp
      with_reducible rfl
    rotate_left
    · simp only [Act.put, List.setIfInBounds_toArray, List.set_cons_zero, List.set_cons_succ, i64_w, i32_w]
      rfl
    refine pure_ (i := 3) (N := some 19) (v := ?_) (a' := ?_) (bm 15 52) rfl rfl (any_of HT_.out (by kernel_rfl)) (fun _ _ _ h => h) (Or.inl ⟨by rfl, ?_⟩) ?_ ?_
    rotate_left
    · intro w'
      go_simp
      with_reducible rfl
    rotate_left
    · simp only [Act.put, List.setIfInBounds_toArray, List.set_cons_zero, List.set_cons_succ, i64_w, i32_w]
      rfl
    refine pure_ (i := 5) (N := some 21) (v := ?_) (a' := ?_) (bm 47 52) rfl rfl (any_of HT_.out (by kernel_rfl)) (fun _ _ _ h => h) (Or.inl ⟨by rfl, ?_⟩) ?_ ?_
    rotate_left
    · intro w'
      go_simp
      with_reducible rfl
    rotate_left
    · simp only [Act.put, List.setIfInBounds_toArray, List.set_cons_zero, List.set_cons_succ, i64_w, i32_w]
      rfl
    refine pure_ (i := 6) (N := some 22) (v := ?_) (a' := ?_) (bm 111 52) rfl rfl (any_of HT_.out (by kernel_rfl)) (fun _ _ _ h => h) (Or.inl ⟨by rfl, ?_⟩) ?_ ?_
    rotate_left
    · intro w'
      go_simp
      with_reducible rfl
    rotate_left
    · simp only [Act.put, List.setIfInBounds_toArray, List.set_cons_zero, List.set_cons_succ, i64_w, i32_w]
      rfl
    refine pure_ (i := 7) (N := some 23) (v := ?_) (a' := ?_) (bm 239 52) rfl rfl (any_of HT_.out (by kernel_rfl)) (fun _ _ _ h => h) (Or.inl ⟨by rfl, ?_⟩) ?_ ?_
    rotate_left
    · intro w'
      go_simp
      with_reducible rfl
    rotate_left
    · simp only [Act.put, List.setIfInBounds_toArray, List.set_cons_zero, List.set_cons_succ, i64_w, i32_w]
      rfl
    refine pure_ (i := 8) (N := some 24) (v := ?_) (a' := ?_) (bm 495 52) rfl rfl (any_of HT_.out (by kernel_rfl)) (fun _ _ _ h => h) (Or.inl ⟨by rfl, ?_⟩) ?_ ?_
    rotate_left
    · intro w'
      go_simp
      with_reducible rfl
    rotate_left
    · simp only [Act.put, List.setIfInBounds_toArray, List.set_cons_zero, List.set_cons_succ, i64_w, i32_w]
      rfl
    refine take_ (i := 4) (N := some 20) (v := ?_) (a' := ?_) (bm 511 52) rfl rfl (take_ofW HT_.out HW_.out (by kernel_rfl)) (fun _ _ _ h => h) (Or.inl ⟨by rfl, ?_⟩) hHeld ?_ ?_
    rotate_left
    · rintro w' ⟨s0, s1, s2, s3, s4, s5, s6, s7⟩
      go_simp
      with_reducible rfl
    rotate_left
    · simp only [Act.put, List.setIfInBounds_toArray, List.set_cons_zero, List.set_cons_succ, i64_w, i32_w]
      rfl
    refine take_ (i := 9) (N := some 25) (v := ?_) (a' := ?_) (bm 1023 52) rfl rfl (take_ofW HT_.out HW_.out (by kernel_rfl)) (fun _ _ _ h => h) (Or.inl ⟨by rfl, ?_⟩) hHeld ?_ ?_
    rotate_left
    · rintro w' ⟨s0, s1, s2, s3, s4, s5, s6, s7⟩
      go_simp
      with_reducible rfl
    rotate_left
    · simp only [Act.put, List.setIfInBounds_toArray, List.set_cons_zero, List.set_cons_succ, i64_w, i32_w]
      rfl
    refine pure_ (i := 10) (N := some 26) (v := ?_) (a' := ?_) (bm 2047 52) rfl rfl (any_of HT_.out (by kernel_rfl)) (fun _ _ _ h => h) (Or.inl ⟨by rfl, ?_⟩) ?_ ?_
    rotate_left
    · intro w'
      go_simp
      with_reducible rfl
    rotate_left
    · simp only [Act.put, List.setIfInBounds_toArray, List.set_cons_zero, List.set_cons_succ, i64_w, i32_w]
      rfl
    refine pure_ (i := 11) (N := some 27) (v := ?_) (a' := ?_) (bm 4095 52) rfl rfl (any_of HT_.out (by kernel_rfl)) (fun _ _ _ h => h) (Or.inl ⟨by rfl, ?_⟩) ?_ ?_
    rotate_left
    · intro w'
      go_simp
      with_reducible rfl
    rotate_left
    · simp only [Act.put, List.setIfInBounds_toArray, List.set_cons_zero, List.set_cons_succ, i64_w, i32_w]
      rfl
    refine pure_ (i := 12) (N := some 28) (v := ?_) (a' := ?_) (bm 8191 52) rfl rfl (any_of HT_.out (by kernel_rfl)) (fun _ _ _ h => h) (Or.inl ⟨by rfl, ?_⟩) ?_ ?_
    rotate_left
    · intro w'
      go_simp
      with_reducible rfl
    rotate_left
    · simp only [Act.put, List.setIfInBounds_toArray, List.set_cons_zero, List.set_cons_succ, i64_w, i32_w]
      rfl
    refine pure_ (i := 13) (N := some 29) (v := ?_) (a' := ?_) (bm 16383 52) rfl rfl (any_of HT_.out (by kernel_rfl)) (fun _ _ _ h => h) (Or.inl ⟨by rfl, ?_⟩) ?_ ?_
    rotate_left
    · intro w'
      go_simp
      with_reducible rfl
    rotate_left
    · simp only [Act.put, List.setIfInBounds_toArray, List.set_cons_zero, List.set_cons_succ, i64_w, i32_w]
      rfl
    refine pure_ (i := 14) (N := some 30) (v := ?_) (a' := ?_) (bm 32767 52) rfl rfl (any_of HT_.out (by kernel_rfl)) (fun _ _ _ h => h) (Or.inl ⟨by rfl, ?_⟩) ?_ ?_
    rotate_left
    · intro w'
      go_simp
      with_reducible rfl
    rotate_left
    · simp only [Act.put, List.setIfInBounds_toArray, List.set_cons_zero, List.set_cons_succ, i64_w, i32_w]
      rfl
    refine pure_ (i := 15) (N := some 31) (v := ?_) (a' := ?_) (bm 65535 52) rfl rfl (any_of HT_.out (by kernel_rfl)) (fun _ _ _ h => h) (Or.inl ⟨by rfl, ?_⟩) ?_ ?_
    rotate_left
    · intro w'
      go_simp
      with_reducible rfl
    rotate_left
    · simp only [Act.put, List.setIfInBounds_toArray, List.set_cons_zero, List.set_cons_succ, i64_w, i32_w]
      rfl
    refine pure_ (i := 17) (N := some 33) (v := ?_) (a' := ?_) (bm 196607 52) rfl rfl (any_of HT_.out (by kernel_rfl)) (fun _ _ _ h => h) (Or.inl ⟨by rfl, ?_⟩) ?_ ?_
    rotate_left
    · intro w'
      go_simp
      with_reducible rfl
    rotate_left
    · simp only [Act.put, List.setIfInBounds_toArray, List.set_cons_zero, List.set_cons_succ, i64_w, i32_w]
      rfl
    refine pure_ (i := 18) (N := some 34) (v := ?_) (a' := ?_) (bm 458751 52) rfl rfl (any_of HT_.out (by kernel_rfl)) (fun _ _ _ h => h) (Or.inl ⟨by rfl, ?_⟩) ?_ ?_
    rotate_left
    · intro w'
      go_simp
      with_reducible rfl
    rotate_left
    · simp only [Act.put, List.setIfInBounds_toArray, List.set_cons_zero, List.set_cons_succ, i64_w, i32_w]
      rfl
    refine pure_ (i := 19) (N := some 35) (v := ?_) (a' := ?_) (bm 983039 52) rfl rfl (any_of HT_.out (by kernel_rfl)) (fun _ _ _ h => h) (Or.inl ⟨by rfl, ?_⟩) ?_ ?_
    rotate_left
    · intro w'
      go_simp
      with_reducible rfl
    rotate_left
    · simp only [Act.put, List.setIfInBounds_toArray, List.set_cons_zero, List.set_cons_succ, i64_w, i32_w]
      rfl
    refine pure_ (i := 20) (N := some 36) (v := ?_) (a' := ?_) (bm 2031615 52) rfl rfl (any_of HT_.out (by kernel_rfl)) (fun _ _ _ h => h) (Or.inl ⟨by rfl, ?_⟩) ?_ ?_
    rotate_left
    · intro w'
      go_simp
      with_reducible rfl
    rotate_left
    · simp only [Act.put, List.setIfInBounds_toArray, List.set_cons_zero, List.set_cons_succ, i64_w, i32_w]
      rfl
    refine take_ (i := 16) (N := some 32) (v := ?_) (a' := ?_) (bm 2097151 52) rfl rfl (take_ofW HT_.out HW_.out (by kernel_rfl)) (fun _ _ _ h => h) (Or.inl ⟨by rfl, ?_⟩) hHeld ?_ ?_
    rotate_left
    · rintro w' ⟨s0, s1, s2, s3, s4, s5, s6, s7⟩
      go_simp
      with_reducible rfl
    rotate_left
    · simp only [Act.put, List.setIfInBounds_toArray, List.set_cons_zero, List.set_cons_succ, i64_w, i32_w]
      rfl
    refine take_ (i := 21) (N := some 37) (v := ?_) (a' := ?_) (bm 4194303 52) rfl rfl (take_ofW HT_.out HW_.out (by kernel_rfl)) (fun _ _ _ h => h) (Or.inl ⟨by rfl, ?_⟩) hHeld ?_ ?_
    rotate_left
    · rintro w' ⟨s0, s1, s2, s3, s4, s5, s6, s7⟩
      go_simp
      with_reducible rfl
    rotate_left
    · simp only [Act.put, List.setIfInBounds_toArray, List.set_cons_zero, List.set_cons_succ, i64_w, i32_w]
      rfl
    refine pure_ (i := 22) (N := some 38) (v := ?_) (a' := ?_) (bm 8388607 52) rfl rfl (any_of HT_.out (by kernel_rfl)) (fun _ _ _ h => h) (Or.inl ⟨by rfl, ?_⟩) ?_ ?_
    rotate_left
    · intro w'
      go_simp
      with_reducible rfl
    rotate_left
    · simp only [Act.put, List.setIfInBounds_toArray, List.set_cons_zero, List.set_cons_succ, i64_w, i32_w]
      rfl
    refine pure_ (i := 23) (N := some 39) (v := ?_) (a' := ?_) (bm 16777215 52) rfl rfl (any_of HT_.out (by kernel_rfl)) (fun _ _ _ h => h) (Or.inl ⟨by rfl, ?_⟩) ?_ ?_
    rotate_left
    · intro w'
      go_simp
      with_reducible rfl
    rotate_left
    · simp only [Act.put, List.setIfInBounds_toArray, List.set_cons_zero, List.set_cons_succ, i64_w, i32_w]
      rfl
    refine pure_ (i := 24) (N := some 40) (v := ?_) (a' := ?_) (bm 33554431 52) rfl rfl (any_of HT_.out (by kernel_rfl)) (fun _ _ _ h => h) (Or.inl ⟨by rfl, ?_⟩) ?_ ?_
    rotate_left
    · intro w'
      go_simp
      with_reducible rfl
    rotate_left
    · simp only [Act.put, List.setIfInBounds_toArray, List.set_cons_zero, List.set_cons_succ, i64_w, i32_w]
      rfl
    refine pure_ (i := 25) (N := some 41) (v := ?_) (a' := ?_) (bm 67108863 52) rfl rfl (any_of HT_.out (by kernel_rfl)) (fun _ _ _ h => h) (Or.inl ⟨by rfl, ?_⟩) ?_ ?_
    rotate_left
    · intro w'
      go_simp
      with_reducible rfl
    rotate_left
    · simp only [Act.put, List.setIfInBounds_toArray, List.set_cons_zero, List.set_cons_succ, i64_w, i32_w]
      rfl
    refine pure_ (i := 26) (N := some 42) (v := ?_) (a' := ?_) (bm 134217727 52) rfl rfl (any_of HT_.out (by kernel_rfl)) (fun _ _ _ h => h) (Or.inl ⟨by rfl, ?_⟩) ?_ ?_
    rotate_left
    · intro w'
      go_simp
      with_reducible rfl
    rotate_left
    · simp only [Act.put, List.setIfInBounds_toArray, List.set_cons_zero, List.set_cons_succ, i64_w, i32_w]
      rfl
    refine pure_ (i := 27) (N := some 43) (v := ?_) (a' := ?_) (bm 268435455 52) rfl rfl (any_of HT_.out (by kernel_rfl)) (fun _ _ _ h => h) (Or.inl ⟨by rfl, ?_⟩) ?_ ?_
    rotate_left
    · intro w'
      go_simp
      with_reducible rfl
    rotate_left
    · simp only [Act.put, List.setIfInBounds_toArray, List.set_cons_zero, List.set_cons_succ, i64_w, i32_w]
      rfl
    refine pure_ (i := 28) (N := some 44) (v := ?_) (a' := ?_) (bm 536870911 52) rfl rfl (any_of HT_.out (by kernel_rfl)) (fun _ _ _ h => h) (Or.inl ⟨by rfl, ?_⟩) ?_ ?_
    rotate_left
    · intro w'
      go_simp
      with_reducible rfl
    rotate_left
    · simp only [Act.put, List.setIfInBounds_toArray, List.set_cons_zero, List.set_cons_succ, i64_w, i32_w]
      rfl
    refine pure_ (i := 30) (N := some 46) (v := ?_) (a' := ?_) (bm 1610612735 52) rfl rfl (any_of HT_.out (by kernel_rfl)) (fun _ _ _ h => h) (Or.inl ⟨by rfl, ?_⟩) ?_ ?_
    rotate_left
    · intro w'
      go_simp
      with_reducible rfl
    rotate_left
    · simp only [Act.put, List.setIfInBounds_toArray, List.set_cons_zero, List.set_cons_succ, i64_w, i32_w]
      rfl
    refine pure_ (i := 31) (N := some 47) (v := ?_) (a' := ?_) (bm 3758096383 52) rfl rfl (any_of HT_.out (by kernel_rfl)) (fun _ _ _ h => h) (Or.inl ⟨by rfl, ?_⟩) ?_ ?_
    rotate_left
    · intro w'
      go_simp
      with_reducible rfl
    rotate_left
    · simp only [Act.put, List.setIfInBounds_toArray, List.set_cons_zero, List.set_cons_succ, i64_w, i32_w]
      rfl
    refine pure_ (i := 32) (N := some 48) (v := ?_) (a' := ?_) (bm 8053063679 52) rfl rfl (any_of HT_.out (by kernel_rfl)) (fun _ _ _ h => h) (Or.inl ⟨by rfl, ?_⟩) ?_ ?_
    rotate_left
    · intro w'
      go_simp
      with_reducible rfl
    rotate_left
    · simp only [Act.put, List.setIfInBounds_toArray, List.set_cons_zero, List.set_cons_succ, i64_w, i32_w]
      rfl
    refine pure_ (i := 33) (N := some 49) (v := ?_) (a' := ?_) (bm 16642998271 52) rfl rfl (any_of HT_.out (by kernel_rfl)) (fun _ _ _ h => h) (Or.inl ⟨by rfl, ?_⟩) ?_ ?_
    rotate_left
    · intro w'
      go_simp
      with_reducible rfl
    rotate_left
    · simp only [Act.put, List.setIfInBounds_toArray, List.set_cons_zero, List.set_cons_succ, i64_w, i32_w]
      rfl
    refine take_ (i := 29) (N := some 45) (v := ?_) (a' := ?_) (bm 17179869183 52) rfl rfl (take_ofW HT_.out HW_.out (by kernel_rfl)) (fun _ _ _ h => h) (Or.inl ⟨by rfl, ?_⟩) hHeld ?_ ?_
    rotate_left
    · rintro w' ⟨s0, s1, s2, s3, s4, s5, s6, s7⟩
      go_simp
      with_reducible rfl
    rotate_left
    · simp only [Act.put, List.setIfInBounds_toArray, List.set_cons_zero, List.set_cons_succ, i64_w, i32_w]
      rfl
    refine take_ (i := 34) (N := some 50) (v := ?_) (a' := ?_) (bm 34359738367 52) rfl rfl (take_ofW HT_.out HW_.out (by kernel_rfl)) (fun _ _ _ h => h) (Or.inl ⟨by rfl, ?_⟩) hHeld ?_ ?_
    rotate_left
    · rintro w' ⟨s0, s1, s2, s3, s4, s5, s6, s7⟩
      go_simp
      with_reducible rfl
    rotate_left
    · simp only [Act.put, List.setIfInBounds_toArray, List.set_cons_zero, List.set_cons_succ, i64_w, i32_w]
      rfl
    refine one_ (i := 35) (N := some 51) (bm 68719476735 52) rfl rfl (one_of HT_.out (by kernel_rfl)) (by decide) (fun K hK => ?_)
    refine goes_ Try.func25 (by kernel_rfl) rfl #[.slice A2 x.f2.length c2, .slice B2 x.f2.length m2] (by rfl) rfl rfl (by simp only [List.map_toArray, List.map_cons, List.map_nil]; rfl) ?_
    with_reducible refine (chanceryref1_SameAttrs.calls k A2 c2 x.f2 B2 m2 x.f2 true _ (Kd.C_below HG2.out HBD.out) HLS.out.1.1 (Kd.C_below HJ2.out HBD.out) HLS.out.2.1 HX.out.1).mono ?_
    rintro e w9 ⟨rfl, hb9⟩
    refine ⟨_, rfl, ?_⟩
    have HB9 := Aside0.mk (below_step HBD.out (drawn_below hb9))
    clear hb9
    refine hK.out _ _ ⟨((HB9.out.cell (World.block_lt_of_cell? w _ hx0)).trans hx0), ((HB9.out.cell (World.block_lt_of_cell? w _ hx1)).trans hx1), ((HB9.out.cell (World.block_lt_of_cell? w _ hx2)).trans hx2), ((HB9.out.cell (World.block_lt_of_cell? w _ hx3)).trans hx3), ((HB9.out.cell (World.block_lt_of_cell? w _ hy0)).trans hy0), ((HB9.out.cell (World.block_lt_of_cell? w _ hy1)).trans hy1), ((HB9.out.cell (World.block_lt_of_cell? w _ hy2)).trans hy2), ((HB9.out.cell (World.block_lt_of_cell? w _ hy3)).trans hy3)⟩ (fun hHeld => ?_)
    clear hK K
    refine norm_ (a' := ?_) ?_ ?_
    rotate_left
    · show Act.put _ (some 51) _ = _
      simp only [Act.put, List.setIfInBounds_toArray, List.set_cons_zero, List.set_cons_succ, i64_w, i32_w]
      rfl
    refine pure_ (i := 36) (N := some 52) (v := ?_) (a' := ?_) (bm 137438953471 52) rfl rfl (any_of HT_.out (by kernel_rfl)) (fun _ _ _ h => h) (Or.inl ⟨by rfl, ?_⟩) ?_ ?_
    rotate_left
    · intro w'
      go_simp
      with_reducible rfl
    rotate_left
    · simp only [Act.put, List.setIfInBounds_toArray, List.set_cons_zero, List.set_cons_succ, i64_w, i32_w]
      rfl
    refine pure_ (i := 37) (N := some 53) (v := ?_) (a' := ?_) (bm 274877906943 52) rfl rfl (any_of HT_.out (by kernel_rfl)) (fun _ _ _ h => h) (Or.inl ⟨by rfl, ?_⟩) ?_ ?_
    rotate_left
    · intro w'
      go_simp
      with_reducible rfl
    rotate_left
    · simp only [Act.put, List.setIfInBounds_toArray, List.set_cons_zero, List.set_cons_succ, i64_w, i32_w]
      rfl
    refine pure_ (i := 38) (N := some 54) (v := ?_) (a' := ?_) (bm 549755813887 52) rfl rfl (any_of HT_.out (by kernel_rfl)) (fun _ _ _ h => h) (Or.inl ⟨by rfl, ?_⟩) ?_ ?_
    rotate_left
    · intro w'
      go_simp
      with_reducible rfl
    rotate_left
    · simp only [Act.put, List.setIfInBounds_toArray, List.set_cons_zero, List.set_cons_succ, i64_w, i32_w]
      rfl
    refine pure_ (i := 39) (N := some 55) (v := ?_) (a' := ?_) (bm 1099511627775 52) rfl rfl (any_of HT_.out (by kernel_rfl)) (fun _ _ _ h => h) (Or.inl ⟨by rfl, ?_⟩) ?_ ?_
    rotate_left
    · intro w'
      go_simp
      with_reducible rfl
    rotate_left
    · simp only [Act.put, List.setIfInBounds_toArray, List.set_cons_zero, List.set_cons_succ, i64_w, i32_w]
      rfl
    refine pure_ (i := 40) (N := some 56) (v := ?_) (a' := ?_) (bm 2199023255551 52) rfl rfl (any_of HT_.out (by kernel_rfl)) (fun _ _ _ h => h) (Or.inl ⟨by rfl, ?_⟩) ?_ ?_
    rotate_left
    · intro w'
      go_simp
      with_reducible rfl
    rotate_left
    · simp only [Act.put, List.setIfInBounds_toArray, List.set_cons_zero, List.set_cons_succ, i64_w, i32_w]
      rfl
    refine pure_ (i := 41) (N := some 57) (v := ?_) (a' := ?_) (bm 4398046511103 52) rfl rfl (any_of HT_.out (by kernel_rfl)) (fun _ _ _ h => h) (Or.inl ⟨by rfl, ?_⟩) ?_ ?_
    rotate_left
    · intro w'
      go_simp
      with_reducible rfl
    rotate_left
    · simp only [Act.put, List.setIfInBounds_toArray, List.set_cons_zero, List.set_cons_succ, i64_w, i32_w]
      rfl
    refine pure_ (i := 42) (N := some 58) (v := ?_) (a' := ?_) (bm 8796093022207 52) rfl rfl (any_of HT_.out (by kernel_rfl)) (fun _ _ _ h => h) (Or.inl ⟨by rfl, ?_⟩) ?_ ?_
    rotate_left
    · intro w'
      go_simp
      with_reducible rfl
    rotate_left
    · simp only [Act.put, List.setIfInBounds_toArray, List.set_cons_zero, List.set_cons_succ, i64_w, i32_w]
      rfl
    refine pure_ (i := 44) (N := some 60) (v := ?_) (a' := ?_) (bm 26388279066623 52) rfl rfl (any_of HT_.out (by kernel_rfl)) (fun _ _ _ h => h) (Or.inl ⟨by rfl, ?_⟩) ?_ ?_
    rotate_left
    · intro w'
      go_simp
      with_reducible rfl
    rotate_left
    · simp only [Act.put, List.setIfInBounds_toArray, List.set_cons_zero, List.set_cons_succ, i64_w, i32_w]
      rfl
    refine pure_ (i := 45) (N := some 61) (v := ?_) (a' := ?_) (bm 61572651155455 52) rfl rfl (any_of HT_.out (by kernel_rfl)) (fun _ _ _ h => h) (Or.inl ⟨by rfl, ?_⟩) ?_ ?_
    rotate_left
    · intro w'
      go_simp
      with_reducible rfl
    rotate_left
    · simp only [Act.put, List.setIfInBounds_toArray, List.set_cons_zero, List.set_cons_succ, i64_w, i32_w]
      rfl
    refine pure_ (i := 46) (N := some 62) (v := ?_) (a' := ?_) (bm 131941395333119 52) rfl rfl (any_of HT_.out (by kernel_rfl)) (fun _ _ _ h => h) (Or.inl ⟨by rfl, ?_⟩) ?_ ?_
    rotate_left
    · intro w'
      go_simp
      with_reducible rfl
    rotate_left
    · simp only [Act.put, List.setIfInBounds_toArray, List.set_cons_zero, List.set_cons_succ, i64_w, i32_w]
      rfl
    refine pure_ (i := 47) (N := some 63) (v := ?_) (a' := ?_) (bm 272678883688447 52) rfl rfl (any_of HT_.out (by kernel_rfl)) (fun _ _ _ h => h) (Or.inl ⟨by rfl, ?_⟩) ?_ ?_
    rotate_left
    · intro w'
      go_simp
      with_reducible rfl
    rotate_left
    · simp only [Act.put, List.setIfInBounds_toArray, List.set_cons_zero, List.set_cons_succ, i64_w, i32_w]
      rfl
    refine take_ (i := 43) (N := some 59) (v := ?_) (a' := ?_) (bm 281474976710655 52) rfl rfl (take_ofW HT_.out HW_.out (by kernel_rfl)) (fun _ _ _ h => h) (Or.inl ⟨by rfl, ?_⟩) hHeld ?_ ?_
    rotate_left
    · rintro w' ⟨s0, s1, s2, s3, s4, s5, s6, s7⟩
      go_simp
      with_reducible rfl
    rotate_left
    · simp only [Act.put, List.setIfInBounds_toArray, List.set_cons_zero, List.set_cons_succ, i64_w, i32_w]
      rfl
    refine take_ (i := 48) (N := some 64) (v := ?_) (a' := ?_) (bm 562949953421311 52) rfl rfl (take_ofW HT_.out HW_.out (by kernel_rfl)) (fun _ _ _ h => h) (Or.inl ⟨by rfl, ?_⟩) hHeld ?_ ?_
    rotate_left
    · rintro w' ⟨s0, s1, s2, s3, s4, s5, s6, s7⟩
      go_simp
      with_reducible rfl
    rotate_left
    · simp only [Act.put, List.setIfInBounds_toArray, List.set_cons_zero, List.set_cons_succ, i64_w, i32_w]
      rfl
    refine last_ (i := 49) (N := some 65) (bm 1125899906842623 52) rfl rfl (one_of HT_.out (by kernel_rfl)) (by decide) (fun K hK => ?_)
    refine goes_ Try.func50 (by kernel_rfl) rfl #[.slice A3 x.f3.length c3, .slice B3 x.f3.length m3] (by rfl) rfl rfl (by simp only [List.map_toArray, List.map_cons, List.map_nil]; rfl) ?_
    with_reducible refine (chanceryref1_SameFlow.calls k A3 c3 x.f3 B3 m3 x.f3 true _ (Kd.C_below HG3.out HB9.out) HLS.out.1.2 (Kd.C_below HJ3.out HB9.out) HLS.out.2.2 HX.out.2).mono ?_
    rintro e w10 ⟨rfl, hb10⟩
    refine ⟨_, rfl, ?_⟩
    have HB10 := Aside0.mk (below_step HB9.out hb10)
    clear hb10
    refine hK.out _ _ ?_
    clear hK K
    refine norm_ (a' := ?_) ?_ ?_
    rotate_left
    · show Act.put _ (some 65) _ = _
      simp only [Act.put, List.setIfInBounds_toArray, List.set_cons_zero, List.set_cons_succ, i64_w, i32_w]
      rfl
    refine pure_ (i := 50) (N := some 66) (v := ?_) (a' := ?_) (bm 2251799813685247 52) rfl rfl (any_of HT_.out (by kernel_rfl)) (fun _ _ _ h => h) (Or.inl ⟨by rfl, ?_⟩) ?_ ?_
    rotate_left
    · intro w'
      go_simp
      with_reducible rfl
    rotate_left
    · simp only [Act.put, List.setIfInBounds_toArray, List.set_cons_zero, List.set_cons_succ, i64_w, i32_w]
      rfl
    refine pure_ (i := 51) (N := some 67) (v := ?_) (a' := ?_) (bm 4503599627370495 52) rfl rfl (any_of HT_.out (by kernel_rfl)) (fun _ _ _ h => h) (Or.inl ⟨by rfl, ?_⟩) ?_ ?_
    rotate_left
    · intro w'
      go_simp
      with_reducible rfl
    rotate_left
    · simp only [Act.put, List.setIfInBounds_toArray, List.set_cons_zero, List.set_cons_succ, i64_w, i32_w]
      rfl
    refine done_ (done_of HT_.out (by kernel_rfl)) ?_
    have wk := HWI.out
    go_wp2
    go_roundg gl
    case measure => omega
    case rel => exact ⟨i + 1, by simp [wk], HIG, HB10⟩
def sameC : Un → Un → Prop
  | .keep t, .keep t' => t = t'
  | .cut, .cut => True
  | .add _, .add _ => True
  | _, _ => False
theorem us_ne {s : S70} (h : StepOK s) : us s ≠ [] := fun e => by have := (us_len h).1; rw [e] at this; simp at this
theorem us_same {s : S70} (h : StepOK s) : ∀ u ∈ us s, ∀ v ∈ us s, sameC u v := by
  rcases h with h | h | h
  · rw [us_keep h.1]; intro u hu v hv; rw [List.eq_of_mem_replicate hu, List.eq_of_mem_replicate hv]; exact rfl
  · rw [us_add h.1]; intro u hu v hv; obtain ⟨x, _, rfl⟩ := List.mem_map.1 hu; obtain ⟨y, _, rfl⟩ := List.mem_map.1 hv; exact trivial
  · rw [us_cut h.1]; intro u hu v hv; rw [List.eq_of_mem_replicate hu, List.eq_of_mem_replicate hv]; exact trivial
theorem us_other {p s : S70} (hp : StepOK p) (hs : StepOK s) (h : Adj p s) : ∀ u ∈ us p, ∀ v ∈ us s, ¬ sameC u v := by
  intro u hu v hv
  rcases hp with hp | hp | hp <;> rcases hs with hs | hs | hs
  · rw [us_keep hp.1] at hu; rw [us_keep hs.1] at hv; rw [List.eq_of_mem_replicate hu, List.eq_of_mem_replicate hv]; exact fun e => h.1 ⟨by omega, .inr e⟩
  · rw [us_keep hp.1] at hu; rw [us_add hs.1] at hv; rw [List.eq_of_mem_replicate hu]; obtain ⟨y, _, rfl⟩ := List.mem_map.1 hv; exact id
  · rw [us_keep hp.1] at hu; rw [us_cut hs.1] at hv; rw [List.eq_of_mem_replicate hu, List.eq_of_mem_replicate hv]; exact id
  · rw [us_add hp.1] at hu; rw [us_keep hs.1] at hv; rw [List.eq_of_mem_replicate hv]; obtain ⟨y, _, rfl⟩ := List.mem_map.1 hu; exact id
  · exact absurd ⟨by omega, .inl (by omega)⟩ h.1
  · rw [us_add hp.1] at hu; rw [us_cut hs.1] at hv; rw [List.eq_of_mem_replicate hv]; obtain ⟨y, _, rfl⟩ := List.mem_map.1 hu; exact id
  · rw [us_cut hp.1] at hu; rw [us_keep hs.1] at hv; rw [List.eq_of_mem_replicate hu, List.eq_of_mem_replicate hv]; exact id
  · rw [us_cut hp.1] at hu; rw [us_add hs.1] at hv; rw [List.eq_of_mem_replicate hu]; obtain ⟨y, _, rfl⟩ := List.mem_map.1 hv; exact id
  · exact absurd ⟨by omega, .inl (by omega)⟩ h.1
theorem us_inj {x y : S70} (hx : StepOK x) (hy : StepOK y) (h : us x = us y) : x = y := by
  have hsame : ∀ u ∈ us x, ∀ v ∈ us y, sameC u v := fun u hu v hv => us_same hy u (h ▸ hu) v hv
  obtain ⟨u, hu⟩ : ∃ u, u ∈ us x := by cases e : us x with
    | nil => exact absurd e (us_ne hx)
    | cons a l => exact ⟨a, List.mem_cons_self⟩
  have huy : u ∈ us y := h ▸ hu
  obtain ⟨x0, x1, x2, x3⟩ := x
  obtain ⟨y0, y1, y2, y3⟩ := y
  rcases hx with hx | hx | hx <;> rcases hy with hy | hy | hy <;> simp only at hx hy <;> obtain ⟨rfl, hx⟩ := hx <;> obtain ⟨rfl, hy⟩ := hy
  · have e1 := us_keep (s := ⟨0, x1, x2, x3⟩) rfl
    have e2 := us_keep (s := ⟨0, y1, y2, y3⟩) rfl
    have hu1 := hu
    rw [e1] at hu1
    have hu2 := huy
    rw [e2] at hu2
    have := (List.eq_of_mem_replicate hu1).symm.trans (List.eq_of_mem_replicate hu2)
    injection this with this
    have hl := congrArg List.length h
    rw [e1, e2, List.length_replicate, List.length_replicate] at hl
    simp only at this hl
    rw [this, hx.2.2.1, hy.2.2.1, show x1 = y1 by omega]
  · exact absurd (hsame _ hu _ huy) (by rw [us_keep (s := ⟨0, x1, x2, x3⟩) rfl] at hu; rw [us_add (s := ⟨1, y1, y2, y3⟩) rfl] at huy; rw [List.eq_of_mem_replicate hu] at huy ⊢; obtain ⟨z, _, hz⟩ := List.mem_map.1 huy; cases hz)
  · exact absurd (hsame _ hu _ huy) (by rw [us_keep (s := ⟨0, x1, x2, x3⟩) rfl] at hu; rw [us_cut (s := ⟨2, y1, y2, y3⟩) rfl] at huy; rw [List.eq_of_mem_replicate hu] at huy; have := List.eq_of_mem_replicate huy; cases this)
  · exact absurd (hsame _ hu _ huy) (by rw [us_keep (s := ⟨0, y1, y2, y3⟩) rfl] at huy; rw [us_add (s := ⟨1, x1, x2, x3⟩) rfl] at hu; rw [List.eq_of_mem_replicate huy] at hu; obtain ⟨z, _, hz⟩ := List.mem_map.1 hu; cases hz)
  · have e1 := us_add (s := ⟨1, x1, x2, x3⟩) rfl
    have e2 := us_add (s := ⟨1, y1, y2, y3⟩) rfl
    rw [e1, e2] at h
    have : x3 = y3 := by
      have inj : ∀ (a b : List S84), a.map Un.add = b.map Un.add → a = b := fun a => by
        induction a with
        | nil => intro b h; cases b with
          | nil => rfl
          | cons c d => simp at h
        | cons c d ih => intro b h; cases b with
          | nil => simp at h
          | cons c' d' => simp at h; rw [h.1, ih d' (by simpa using h.2)]
      exact inj _ _ h
    rw [this, hx.1, hy.1, hx.2.1, hy.2.1]
  · exact absurd (hsame _ hu _ huy) (by rw [us_cut (s := ⟨2, y1, y2, y3⟩) rfl] at huy; rw [us_add (s := ⟨1, x1, x2, x3⟩) rfl] at hu; rw [List.eq_of_mem_replicate huy] at hu; obtain ⟨z, _, hz⟩ := List.mem_map.1 hu; cases hz)
  · exact absurd (hsame _ hu _ huy) (by rw [us_keep (s := ⟨0, y1, y2, y3⟩) rfl] at huy; rw [us_cut (s := ⟨2, x1, x2, x3⟩) rfl] at hu; rw [List.eq_of_mem_replicate huy] at hu; have := List.eq_of_mem_replicate hu; cases this)
  · exact absurd (hsame _ hu _ huy) (by rw [us_add (s := ⟨1, y1, y2, y3⟩) rfl] at huy; rw [us_cut (s := ⟨2, x1, x2, x3⟩) rfl] at hu; rw [List.eq_of_mem_replicate hu] at huy; obtain ⟨z, _, hz⟩ := List.mem_map.1 huy; cases hz)
  · have hl := congrArg List.length h
    rw [us_cut (s := ⟨2, x1, x2, x3⟩) rfl, us_cut (s := ⟨2, y1, y2, y3⟩) rfl, List.length_replicate, List.length_replicate] at hl
    simp only at hl
    rw [hx.2.2.1, hy.2.2.1, hx.2.2.2, hy.2.2.2, show x1 = y1 by omega]
theorem append_class {a b c d : List Un} (h : a ++ b = c ++ d) (ha : a ≠ []) (hc : c ≠ []) (sa : ∀ u ∈ a, ∀ v ∈ a, sameC u v) (sc : ∀ u ∈ c, ∀ v ∈ c, sameC u v) (nb : ∀ v r, b = v :: r → ∀ u ∈ a, ¬ sameC u v) (nd : ∀ v r, d = v :: r → ∀ u ∈ c, ¬ sameC u v) : a = c ∧ b = d := by
  rcases List.append_eq_append_iff.1 h with ⟨e, h1, h2⟩ | ⟨e, h1, h2⟩
  · cases e with
    | nil => simp at h1 h2; exact ⟨h1.symm, h2⟩
    | cons v r =>
      obtain ⟨u, hu⟩ : ∃ u, u ∈ a := by cases a with
        | nil => exact absurd rfl ha
        | cons x l => exact ⟨x, List.mem_cons_self⟩
      exact absurd (sc u (by rw [h1]; exact List.mem_append_left _ hu) v (by rw [h1]; simp)) (nb v (r ++ d) (by rw [h2]; rfl) u hu)
  · cases e with
    | nil => simp at h1 h2; exact ⟨h1, h2.symm⟩
    | cons v r =>
      obtain ⟨u, hu⟩ : ∃ u, u ∈ c := by cases c with
        | nil => exact absurd rfl hc
        | cons x l => exact ⟨x, List.mem_cons_self⟩
      exact absurd (sa u (by rw [h1]; exact List.mem_append_left _ hu) v (by rw [h1]; simp)) (nd v (r ++ b) (by rw [h2]; rfl) u hu)
theorem form_one : ∀ (a b : List S70) (p q : Option S70), (∀ x ∈ a, StepOK x) → (∀ x ∈ b, StepOK x) → ordOK p a → ordOK q b → units a = units b → a = b
  | [], [], _, _, _, _, _, _, _ => rfl
  | [], y :: b, _, _, _, hb, _, _, h => by
    have := us_ne (hb y List.mem_cons_self)
    rw [units_nil, units_cons] at h
    exact absurd (List.append_eq_nil_iff.1 h.symm).1 this
  | x :: a, [], _, _, ha, _, _, _, h => by
    have := us_ne (ha x List.mem_cons_self)
    rw [units_nil, units_cons] at h
    exact absurd (List.append_eq_nil_iff.1 h).1 this
  | x :: a, y :: b, p, q, ha, hb, oa, ob, h => by
    have hx := ha x List.mem_cons_self
    have hy := hb y List.mem_cons_self
    have ha' : ∀ z ∈ a, StepOK z := fun z hz => ha z (List.mem_cons_of_mem _ hz)
    have hb' : ∀ z ∈ b, StepOK z := fun z hz => hb z (List.mem_cons_of_mem _ hz)
    have next : ∀ (x : S70) (a : List S70), StepOK x → (∀ z ∈ a, StepOK z) → ordOK (some x) a → ∀ v r, units a = v :: r → ∀ u ∈ us x, ¬ sameC u v := by
      intro x a hx ha oa v r e u hu
      cases a with
      | nil => cases e
      | cons z t =>
        have hz := ha z List.mem_cons_self
        rw [units_cons] at e
        cases hu' : us z with
        | nil => exact absurd hu' (us_ne hz)
        | cons w s =>
          rw [hu'] at e
          injection e with e1 e2
          exact us_other hx hz (oa.1 x rfl) u hu v (by rw [hu', e1]; exact List.mem_cons_self)
    rw [units_cons, units_cons] at h
    obtain ⟨h1, h2⟩ := append_class h (us_ne hx) (us_ne hy) (us_same hx) (us_same hy) (next x a hx ha' oa.2) (next y b hy hb' ob.2)
    obtain rfl := us_inj hx hy h1
    rw [form_one a b _ _ ha' hb' oa.2 ob.2 h2]
def isZero (x : S70) : Prop := x = ⟨0, 0, [], []⟩
def seqOK : Bool → List S70 → Prop
  | _, [] => True
  | c, x :: r => (x.f0 = 1 → c = false) ∧ seqOK (if x.f0 = 2 then true else if x.f0 = 0 ∧ x.f1 ≠ 0 then false else c) r
theorem keep_out {k : Nat} {s s' : WD} {n : Int} {t : List S38} (h0 : n ≠ 0) (h : keepF k s n t = some s') : s'.cut = 0 := by
  unfold keepF at h
  rw [if_neg h0] at h
  split at h
  · cases h
  · obtain ⟨b, _, h⟩ := Option.bind_eq_some_iff.1 h
    injection h with h
    rw [← h]
theorem tidy_spec {A : Nat} (hA : A ≤ 1073741824) : ∀ (ss : List S70) (s : WD), WF A s → (∀ x ∈ ss, (StepOK x ∧ SAt A x) ∨ isZero x) → seqOK (decide (0 < s.cut)) ss → (wu s).length + (units ss).length ≤ 1073741824 →
    ∃ o, Ev (fun k => tidyL k ss s) (o, 0) ∧ FO A o ∧ units o = wu s ++ units ss
  | [], s, h, _, _, hl => by
    obtain ⟨o, e, fo, eu⟩ := done_spec h hA (by simp [units_nil] at hl; omega)
    exact ⟨o, e, fo, by rw [eu, units_nil, List.append_nil]⟩
  | x :: ss, s, h, hok, hq, hl => by
    have hok' : ∀ y ∈ ss, (StepOK y ∧ SAt A y) ∨ isZero y := fun y hy => hok y (List.mem_cons_of_mem _ hy)
    rw [units_cons, List.length_append] at hl
    rcases hok x List.mem_cons_self with ⟨hx, hxa⟩ | hx
    · have hul := us_len hx
      have hsm : SSm x := stepok_small (n := 1073741824) hx (Nat.le_trans hxa.1 hA) ⟨by omega, fun y hy => Nat.le_trans (hxa.2 y hy) hA⟩ (Nat.le_refl _)
      obtain ⟨r0, hr0, hri⟩ := step_ev x hsm
      obtain rfl := hri.2 hx
      have hE : ∀ k, tidyE k x 0 = some 0 := fun k => by unfold tidyE; rw [if_neg (by unfold tidyC; split <;> simp)]
      have e : ∀ k, tidyL k (x :: ss) s = (delta_step.f k x.f0 x.f1 x.f2 x.f3).bind fun e0 => (tidyE k x e0).bind fun e => if e ≠ 0 then some ([], e) else if x.f0 = 0 then (keepF k s x.f1 x.f2).bind (tidyL k ss) else if x.f0 = 1 then (elemsF k s x.f3).bind (tidyL k ss) else if wrap64 (s.cut + x.f1) > 2147483647 then some ([], 3) else tidyL k ss ⟨s.out, s.add, wrap64 (s.cut + x.f1)⟩ := fun k => rfl
      rcases hx with hk | hk | hk
      · obtain ⟨s1, e1, w1, u1⟩ := keep_spec x.f1 x.f2 h hk.2.2.2.2 hxa.1 hA hk.2.1 (by rw [us_keep hk.1, List.length_replicate] at hl; omega)
        have hc : s1.cut = 0 := by obtain ⟨k, hk2⟩ := e1.rounds; exact keep_out (by omega) hk2
        obtain ⟨o, e2, fo, eu⟩ := tidy_spec hA ss s1 w1 hok' (by
          have := hq.2
          rw [if_neg (by omega), if_pos ⟨hk.1, by omega⟩] at this
          rw [hc]
          exact this) (by rw [u1, List.length_append, List.length_replicate]; rw [us_keep hk.1, List.length_replicate] at hl; omega)
        exact ⟨o, Ev.congr e (Ev.bind hr0 (Ev.congr (fun k => by rw [hE, Option.bind_some, if_neg (by decide), if_pos hk.1]) (Ev.bind e1 e2))), fo, by rw [eu, u1, units_cons, us_keep hk.1, List.append_assoc]⟩
      · have hcut : s.cut = 0 := by
          have := hq.1 hk.1
          have h2 := h.cut
          have := of_decide_eq_false this
          omega
        obtain ⟨s1, e1, w1, u1⟩ := elems_spec x.f3 h hk.2.2.2.2 hxa.2 hA (by rw [us_add hk.1, List.length_map] at hl; omega)
        have hs1 : s1 = ⟨s.out, s.add ++ x.f3, s.cut⟩ := by
          have hcp := copy_ev x.f3 hsm.2
          obtain ⟨K1, hK1⟩ := e1
          obtain ⟨K2, hK2⟩ := hcp
          have h1 : elemsF (K1 + K2) s x.f3 = some s1 := hK1 (K1 + K2) (by omega)
          have h2 : flow_Copy.f (K1 + K2) x.f3 = some x.f3 := hK2 (K1 + K2) (by omega)
          unfold elemsF at h1
          rw [h2, Option.bind_some] at h1
          split at h1
          · cases h1
          · injection h1 with h1; exact h1.symm
        have u1' : wu s1 = wu s ++ x.f3.map .add := by rw [hs1, wu, wu, hcut]; simp
        have hc : s1.cut = 0 := by rw [hs1]; exact hcut
        obtain ⟨o, e2, fo, eu⟩ := tidy_spec hA ss s1 w1 hok' (by
          have := hq.2
          rw [if_neg (by omega), if_neg (by omega), hcut] at this
          rw [hc]
          exact this) (by rw [u1', List.length_append, List.length_map]; rw [us_add hk.1, List.length_map] at hl; omega)
        exact ⟨o, Ev.congr e (Ev.bind hr0 (Ev.congr (fun k => by rw [hE, Option.bind_some, if_neg (by decide), if_neg (by omega), if_pos hk.1]) (Ev.bind e1 e2))), fo, by rw [eu, u1', units_cons, us_add hk.1, List.append_assoc]⟩
      · have hwl := wu_len s
        have hsc := h.cut
        have hxl : x.f1.toNat ≤ 1073741824 := by rw [us_cut hk.1, List.length_replicate] at hl; omega
        obtain ⟨w1, u1⟩ := cut_spec x.f1 h (by omega)
        obtain ⟨o, e2, fo, eu⟩ := tidy_spec hA ss ⟨s.out, s.add, s.cut + x.f1⟩ w1 hok' (by
          have := hq.2
          rw [if_pos hk.1] at this
          rw [decide_eq_true (by show 0 < s.cut + x.f1; omega)]
          exact this) (by rw [u1, List.length_append, List.length_replicate]; rw [us_cut hk.1, List.length_replicate] at hl; omega)
        have hb : s.cut + x.f1 ≤ 1073741824 := by rw [us_cut hk.1, List.length_replicate] at hl; omega
        exact ⟨o, Ev.congr e (Ev.bind hr0 (Ev.congr (fun k => by rw [hE, Option.bind_some, if_neg (by decide), if_neg (by omega), if_neg (by omega), w64 (by omega) (by omega), if_neg (by omega)]) e2)), fo, by rw [eu, u1, units_cons, us_cut hk.1, List.append_assoc]⟩
    · subst hx
      obtain ⟨o, e2, fo, eu⟩ := tidy_spec hA ss s h hok' (by have := hq.2; rw [if_neg (by decide), if_neg (by simp)] at this; exact this) (by omega)
      have hcc : Ev (fun k => attr_CheckChange.f k []) 0 := by
        obtain ⟨r, hr, hri⟩ := chkc_ev [] ⟨Nat.zero_le _, fun x hx => by cases hx⟩
        obtain rfl := hri.2 (va_nil _)
        exact hr
      have hst : Ev (fun k => delta_step.f k 0 0 [] []) 2 := Ev.of (fun k => delta_step.mono _ _ _ _ k) (k := 3) (by decide +kernel)
      refine ⟨o, Ev.congr (f := fun k => (delta_step.f k 0 0 [] []).bind fun e0 => (tidyE k ⟨0, 0, [], []⟩ e0).bind fun e => if e ≠ 0 then some ([], e) else if (0 : Int) = 0 then (keepF k s 0 []).bind (tidyL k ss) else if (0 : Int) = 1 then (elemsF k s []).bind (tidyL k ss) else if wrap64 (s.cut + 0) > 2147483647 then some ([], 3) else tidyL k ss ⟨s.out, s.add, wrap64 (s.cut + 0)⟩) (fun k => rfl) (Ev.bind hst (Ev.bind (g := fun k => tidyE k ⟨0, 0, [], []⟩ 2) (Ev.congr (fun k => by unfold tidyE; rw [if_pos (by decide)]) hcc) (Ev.congr (fun k => by rw [if_neg (by decide), if_pos rfl, keepF, if_pos rfl, Option.bind_some]) e2))), fo, ?_⟩
      rw [eu, units_cons]
      rfl
def oneE (x : S84) : List S70 := [⟨1, 0, [], [x]⟩, ⟨0, 0, [], []⟩]
def splitS (s : S70) : List S70 := List.replicate s.f1.toNat ⟨s.f0, 1, s.f2, []⟩ ++ s.f3.flatMap oneE
def splitL (d : List S70) : List S70 := d.flatMap splitS
theorem units_rep (x : S70) (u : Un) (h : us x = [u]) : ∀ n, units (List.replicate n x) = List.replicate n u
  | 0 => rfl
  | n + 1 => by rw [List.replicate_succ, List.replicate_succ, units_cons, h, units_rep x u h n]; rfl
theorem units_ones : ∀ l : List S84, units (l.flatMap oneE) = l.map .add
  | [] => rfl
  | x :: l => by rw [List.flatMap_cons, units_app, units_ones l]; rfl
theorem units_splitS {s : S70} (h : StepOK s) : units (splitS s) = us s := by
  unfold splitS
  rw [units_app, units_ones]
  rcases h with h | h | h
  · rw [h.2.2.2.1, us_keep h.1, units_rep _ (.keep s.f2) (by rw [us_keep (s := ⟨s.f0, 1, s.f2, []⟩) h.1]; rfl)]; simp
  · rw [us_add h.1, h.2.1]; rfl
  · rw [h.2.2.2.1, us_cut h.1, units_rep _ .cut (by rw [us_cut (s := ⟨s.f0, 1, s.f2, []⟩) h.1]; rfl)]; simp
theorem units_split : ∀ {d : List S70}, (∀ s ∈ d, StepOK s) → units (splitL d) = units d
  | [], _ => rfl
  | s :: d, h => by
    rw [splitL, List.flatMap_cons, units_app, units_cons, units_splitS (h s List.mem_cons_self)]
    exact congrArg _ (units_split (fun x hx => h x (List.mem_cons_of_mem _ hx)))
theorem splitS_ok {A : Nat} {s : S70} (h : StepOK s) (ha : SAt A s) : ∀ x ∈ splitS s, (StepOK x ∧ SAt A x) ∨ isZero x := by
  intro x hx
  unfold splitS at hx
  rcases List.mem_append.1 hx with hx | hx
  · rw [List.eq_of_mem_replicate hx]
    rcases h with h | h | h
    · exact .inl ⟨.inl ⟨h.1, (by show (1 : Int) ≤ 1; decide), (by show (1 : Int) ≤ 2147483647; decide), rfl, h.2.2.2.2⟩, ha.1, fun y hy => by cases hy⟩
    · rw [h.2.1] at hx; simp at hx
    · exact .inl ⟨.inr (.inr ⟨h.1, (by show (1 : Int) ≤ 1; decide), (by show (1 : Int) ≤ 2147483647; decide), rfl, h.2.2.2.2⟩), ha.1, fun y hy => by cases hy⟩
  · obtain ⟨y, hy, hx⟩ := List.mem_flatMap.1 hx
    simp only [oneE, List.mem_cons, List.not_mem_nil, or_false] at hx
    rcases hx with rfl | rfl
    · have hp : POK s.f3 := by
        rcases h with h | h | h
        · rw [h.2.2.2.1] at hy; cases hy
        · exact h.2.2.2.2
        · rw [h.2.2.2.1] at hy; cases hy
      exact .inl ⟨.inr (.inl ⟨rfl, rfl, rfl, (fun e => by cases e), pok_mem.2 (fun z hz => by rw [List.mem_singleton.1 hz]; exact pok_mem.1 hp y hy)⟩), Nat.zero_le _, fun z hz => by rw [List.mem_singleton.1 hz]; exact ha.2 y hy⟩
    · exact .inr rfl
def pend (c : Bool) (x : S70) : Bool := if x.f0 = 2 then true else if x.f0 = 0 ∧ x.f1 ≠ 0 then false else c
theorem seq_cons {c : Bool} {x : S70} {r : List S70} : seqOK c (x :: r) ↔ (x.f0 = 1 → c = false) ∧ seqOK (pend c x) r := Iff.rfl
theorem seq_rep {x : S70} {b : Bool} (h1 : x.f0 ≠ 1) (hp : ∀ c, pend c x = b) (r : List S70) (h : seqOK b r) : ∀ (n : Nat) (c : Bool), 1 ≤ n → seqOK c (List.replicate n x ++ r)
  | 0, c, hn => by omega
  | 1, c, _ => by rw [List.replicate_one, List.singleton_append, seq_cons, hp]; exact ⟨fun e => absurd e h1, h⟩
  | n + 2, c, _ => by rw [List.replicate_succ, List.cons_append, seq_cons, hp]; exact ⟨fun e => absurd e h1, seq_rep h1 hp r h (n + 1) b (by omega)⟩
theorem seq_ones (r : List S70) (h : seqOK false r) : ∀ l : List S84, seqOK false (l.flatMap oneE ++ r)
  | [] => h
  | x :: l => by
    rw [List.flatMap_cons, List.append_assoc]
    refine ⟨fun _ => rfl, ⟨(fun e => by cases e), ?_⟩⟩
    exact seq_ones r h l
theorem seq_splitS {s : S70} (hs : StepOK s) (c : Bool) (r : List S70) (h1 : s.f0 = 1 → c = false) (h : seqOK (pend c s) r) : seqOK c (splitS s ++ r) := by
  unfold splitS
  rcases hs with k | k | k
  · have hp : pend c s = false := by unfold pend; rw [if_neg (by omega), if_pos ⟨k.1, by omega⟩]
    rw [hp] at h
    rw [k.2.2.2.1, List.flatMap_nil, List.append_nil]
    exact seq_rep (b := false) (by show s.f0 ≠ 1; omega) (fun c => by unfold pend; simp [k.1]) r h _ _ (by omega)
  · have hp : pend c s = c := by unfold pend; rw [if_neg (by omega), if_neg (by omega)]
    have hc := h1 k.1
    rw [hp] at h
    subst hc
    rw [k.2.1]
    exact seq_ones r h s.f3
  · have hp : pend c s = true := by unfold pend; rw [if_pos k.1]
    rw [hp] at h
    rw [k.2.2.2.1, List.flatMap_nil, List.append_nil]
    exact seq_rep (b := true) (by show s.f0 ≠ 1; omega) (fun c => by unfold pend; simp [k.1]) r h _ _ (by omega)
def pendO : Option S70 → Bool
  | none => false
  | some q => decide (q.f0 = 2)
theorem pend_le {c : Bool} {x : S70} (h : StepOK x) : (x.f0 = 1 → c = false) → pend c x = decide (x.f0 = 2) := by
  intro hc
  unfold pend
  rcases h with k | k | k
  · rw [if_neg (by omega), if_pos ⟨k.1, by omega⟩, decide_eq_false (by omega)]
  · rw [if_neg (by omega), if_neg (by omega), hc k.1, decide_eq_false (by omega)]
  · rw [if_pos k.1, decide_eq_true k.1]
theorem ord_add {p : Option S70} {x : S70} (h : ∀ q, p = some q → Adj q x) : x.f0 = 1 → pendO p = false := by
  intro hx
  cases p with
  | none => rfl
  | some q => exact decide_eq_false (fun h2 => (h q rfl).2 ⟨h2, hx⟩)
theorem seq_ord : ∀ (d : List S70) (p : Option S70), (∀ s ∈ d, StepOK s) → ordOK p d → seqOK (pendO p) d
  | [], _, _, _ => trivial
  | x :: d, p, hs, ho => by
    have h1 := ord_add ho.1
    rw [seq_cons, pend_le (hs x List.mem_cons_self) h1]
    exact ⟨h1, seq_ord d (some x) (fun y hy => hs y (List.mem_cons_of_mem _ hy)) ho.2⟩
theorem seq_split : ∀ (d : List S70) (p : Option S70), (∀ s ∈ d, StepOK s) → ordOK p d → seqOK (pendO p) (splitL d)
  | [], _, _, _ => trivial
  | x :: d, p, hs, ho => by
    have h1 := ord_add ho.1
    rw [splitL, List.flatMap_cons]
    refine seq_splitS (hs x List.mem_cons_self) _ _ h1 ?_
    rw [pend_le (hs x List.mem_cons_self) h1]
    exact seq_split d (some x) (fun y hy => hs y (List.mem_cons_of_mem _ hy)) ho.2
theorem split_len : ∀ (d : List S70), (∀ s ∈ d, StepOK s) → (splitL d).length ≤ 2 * (units d).length
  | [], _ => Nat.zero_le _
  | x :: d, h => by
    have ih := split_len d (fun y hy => h y (List.mem_cons_of_mem _ hy))
    have hx := us_len2 (h x List.mem_cons_self)
    have h1 : (splitS x).length ≤ 2 * (us x).length := by
      unfold splitS
      have h2 : (x.f3.flatMap oneE).length = 2 * x.f3.length := by
        induction x.f3 with
        | nil => rfl
        | cons y l ih2 => rw [List.flatMap_cons, List.length_append, ih2]; simp [oneE]; omega
      rw [List.length_append, List.length_replicate, h2]
      rcases h x List.mem_cons_self with k | k | k
      · have := us_len (h x List.mem_cons_self); rw [k.2.2.2.1]; simp; omega
      · rw [us_add k.1, List.length_map, k.2.1]; simp
      · have := us_len (h x List.mem_cons_self); rw [k.2.2.2.1]; simp; omega
    rw [splitL, List.flatMap_cons, List.length_append, units_cons, List.length_append]
    exact Nat.le_trans (Nat.add_le_add h1 ih) (by omega)
theorem tidy_back {A : Nat} {d : List S70} (h : FO A d) (hA : A ≤ 1073741824) (hl : (units d).length ≤ 536870912) : Ev (fun k => tidyF k d) (d, 0) ∧ Ev (fun k => tidyF k (splitL d)) (d, 0) := by
  have hdl := units_len h.ok
  have hsl := split_len d h.ok
  constructor
  · obtain ⟨o, e, fo, eu⟩ := tidy_spec hA d ⟨[], [], 0⟩ (WF.nil A) (fun x hx => .inl ⟨h.ok x hx, h.att x hx⟩) (seq_ord d none h.ok h.ord) (by show 0 + _ ≤ _; omega)
    have : o = d := form_one o d none none fo.ok h.ok fo.ord h.ord eu
    rw [this] at e
    exact Ev.congr (fun k => by unfold tidyF; rw [if_neg (by omega)]) e
  · obtain ⟨o, e, fo, eu⟩ := tidy_spec hA (splitL d) ⟨[], [], 0⟩ (WF.nil A) (fun x hx => by
      obtain ⟨s, hs, hx⟩ := List.mem_flatMap.1 hx
      exact splitS_ok (h.ok s hs) (h.att s hs) x hx) (seq_split d none h.ok h.ord) (by rw [units_split h.ok]; show 0 + _ ≤ _; omega)
    have : o = d := form_one o d none none fo.ok h.ok fo.ord h.ord (eu.trans (units_split h.ok))
    rw [this] at e
    exact Ev.congr (fun k => by unfold tidyF; rw [if_neg (by omega)]) e
structure SM (n : Nat) (s : WD) : Prop where
  len : s.out.length ≤ n
  out : ∀ x ∈ s.out, SSm x
  addl : s.add.length ≤ n
  add : ∀ y ∈ s.add, Small y.f2 ∧ y.f2.length ≤ 1073741824
theorem SM.mono {n m : Nat} {s : WD} (h : SM n s) (hm : n ≤ m) : SM m s := ⟨Nat.le_trans h.len hm, h.out, Nat.le_trans h.addl hm, h.add⟩
theorem ssm_nil : FSmall [] := ⟨Nat.zero_le _, fun x hx => by cases hx⟩
theorem small_nil : Small [] := ⟨Nat.zero_le _, fun x hx => by cases hx⟩
theorem flush_sm {n : Nat} {s : WD} (h : SM n s) (hn : n ≤ 1073741000) : (flushD s.out s.add s.cut).length ≤ s.out.length + 2 ∧ ∀ x ∈ flushD s.out s.add s.cut, SSm x := by
  have h1 : (addD s.out s.add).length ≤ s.out.length + 1 ∧ ∀ x ∈ addD s.out s.add, SSm x := by
    unfold addD
    split
    · refine ⟨by simp, fun x hx => ?_⟩
      rcases List.mem_append.1 hx with hx | hx
      · exact h.out x hx
      · rw [List.mem_singleton.1 hx]; exact ⟨small_nil, by have := h.addl; show s.add.length ≤ _; omega, h.add⟩
    · exact ⟨by omega, h.out⟩
  unfold flushD cutD
  split
  · refine ⟨by rw [List.length_append, List.length_singleton]; omega, fun x hx => ?_⟩
    rcases List.mem_append.1 hx with hx | hx
    · exact h1.2 x hx
    · rw [List.mem_singleton.1 hx]; exact ⟨small_nil, ssm_nil⟩
  · exact ⟨by omega, h1.2⟩
theorem keepB_any {o : List S70} (t : List S38) (h : ∀ x ∈ o, SSm x) : ∃ b, Ev (fun k => keepB k o t) b := by
  by_cases hz : 0 < o.length
  · obtain ⟨o', x, e, ex⟩ := last_split hz
    by_cases hk : x.f0 = 0
    · obtain ⟨b, hb, _⟩ := asame_ev x.f2 t (h x (by rw [e]; simp)).1.1
      exact ⟨b, Ev.congr (fun k => by unfold keepB; rw [if_pos hz, ex, if_pos hk]) hb⟩
    · exact ⟨false, Ev.congr (fun k => by unfold keepB; rw [if_pos hz, ex, if_neg hk]) (Ev.now false)⟩
  · exact ⟨false, Ev.congr (fun k => by unfold keepB; rw [if_neg hz]) (Ev.now false)⟩
theorem keep_sm {n : Nat} {s : WD} (m : Int) (t : List S38) (h : SM n s) (hn : n ≤ 1073741000) (ht : Small t) : ∃ s', Ev (fun k => keepF k s m t) s' ∧ SM (n + 3) s' := by
  have hlen := h.len
  have ht1 := ht.1
  by_cases hm : m = 0
  · exact ⟨s, Ev.congr (fun k => by unfold keepF; rw [if_pos hm]) (Ev.now s), h.mono (by omega)⟩
  obtain ⟨h1, h2⟩ := flush_sm h hn
  obtain ⟨b, hb⟩ := keepB_any t h2
  refine ⟨⟨keepO (flushD s.out s.add s.cut) m t b, [], 0⟩, Ev.congr (fun k => by unfold keepF; rw [if_neg hm, if_neg (by omega)]) (Ev.bind hb (Ev.now _)), ?_⟩
  cases b with
  | true =>
    refine ⟨by simp only [keepO, List.length_set]; omega, fun x hx => ?_, Nat.zero_le _, fun y hy => by cases hy⟩
    simp only [keepO] at hx
    rcases List.mem_or_eq_of_mem_set hx with hx | hx
    · exact h2 x hx
    · rw [hx]
      by_cases hz : 0 < (flushD s.out s.add s.cut).length
      · obtain ⟨o', y, e, ey⟩ := last_split hz
        rw [ey]
        exact ⟨(h2 y (by rw [e]; simp)).1, (h2 y (by rw [e]; simp)).2⟩
      · have : flushD s.out s.add s.cut = [] := List.eq_nil_of_length_eq_zero (by omega)
        rw [this]
        exact ⟨small_nil, ssm_nil⟩
  | false =>
    refine ⟨by simp only [keepO, List.length_append, List.length_singleton]; omega, fun x hx => ?_, Nat.zero_le _, fun y hy => by cases hy⟩
    simp only [keepO] at hx
    rcases List.mem_append.1 hx with hx | hx
    · exact h2 x hx
    · rw [List.mem_singleton.1 hx]; exact ⟨ht, ssm_nil⟩
theorem tidyE_any (x : S70) (e0 : Int) (hs : Small x.f2) : ∃ e, Ev (fun k => tidyE k x e0) e := by
  unfold tidyE
  by_cases h : tidyC x e0 = true
  · obtain ⟨r, hr, _⟩ := chkc_ev x.f2 hs
    exact ⟨r, Ev.congr (fun k => by rw [if_pos h]) hr⟩
  · exact ⟨e0, Ev.congr (fun k => by rw [if_neg h]) (Ev.now e0)⟩
theorem tidy_any : ∀ (ss : List S70) (s : WD) (n : Nat), SM n s → (∀ x ∈ ss, SSm x) → n + 3 * ss.length + (ss.map (fun s => s.f3.length)).sum ≤ 1073741000 → ∃ r : List S70 × Int, Ev (fun k => tidyL k ss s) r ∧ (r.2 = 0 → DSm r.1 ∧ DOK r.1)
  | [], s, n, h, _, hl => by
    have hlen := h.len
    simp only [List.length_nil, List.map_nil, List.sum_nil] at hl
    obtain ⟨h1, h2⟩ := flush_sm h (by omega)
    have hd : DSm (flushD s.out s.add s.cut) := ⟨by omega, h2⟩
    obtain ⟨c, hc, hci⟩ := check_ev _ hd
    by_cases hz : c = 0
    · exact ⟨(flushD s.out s.add s.cut, 0), Ev.congr (fun k => by show doneD k s = _; unfold doneD; rw [if_neg (by omega)]) (Ev.bind hc (Ev.congr (fun k => by rw [if_neg (by omega)]) (Ev.now _))), fun _ => ⟨hd, hci.1 hz⟩⟩
    · exact ⟨([], 3), Ev.congr (fun k => by show doneD k s = _; unfold doneD; rw [if_neg (by omega)]) (Ev.bind hc (Ev.congr (fun k => by rw [if_pos hz]) (Ev.now _))), fun h => by cases h⟩
  | x :: ss, s, n, h, hs, hl => by
    have hx := hs x List.mem_cons_self
    have hs' : ∀ y ∈ ss, SSm y := fun y hy => hs y (List.mem_cons_of_mem _ hy)
    simp only [List.length_cons, List.map_cons, List.sum_cons] at hl
    obtain ⟨e0, he0, _⟩ := step_ev x hx
    obtain ⟨e, he⟩ := tidyE_any x e0 hx.1
    have ee : ∀ k, tidyL k (x :: ss) s = (delta_step.f k x.f0 x.f1 x.f2 x.f3).bind fun e0 => (tidyE k x e0).bind fun e => if e ≠ 0 then some ([], e) else if x.f0 = 0 then (keepF k s x.f1 x.f2).bind (tidyL k ss) else if x.f0 = 1 then (elemsF k s x.f3).bind (tidyL k ss) else if wrap64 (s.cut + x.f1) > 2147483647 then some ([], 3) else tidyL k ss ⟨s.out, s.add, wrap64 (s.cut + x.f1)⟩ := fun k => rfl
    have go : ∀ (r : List S70 × Int), Ev (fun k => if e ≠ 0 then some (([] : List S70), e) else if x.f0 = 0 then (keepF k s x.f1 x.f2).bind (tidyL k ss) else if x.f0 = 1 then (elemsF k s x.f3).bind (tidyL k ss) else if wrap64 (s.cut + x.f1) > 2147483647 then some ([], 3) else tidyL k ss ⟨s.out, s.add, wrap64 (s.cut + x.f1)⟩) r → Ev (fun k => tidyL k (x :: ss) s) r := fun r hr => Ev.congr ee (Ev.bind he0 (Ev.bind he hr))
    by_cases hz : e = 0
    rotate_left
    · exact ⟨([], e), go _ (Ev.congr (fun k => by rw [if_pos hz]) (Ev.now _)), fun h => absurd h hz⟩
    by_cases k0 : x.f0 = 0
    · obtain ⟨s1, e1, h1⟩ := keep_sm x.f1 x.f2 h (by omega) hx.1
      obtain ⟨r, hr, hri⟩ := tidy_any ss s1 (n + 3) h1 hs' (by omega)
      exact ⟨r, go r (Ev.congr (fun k => by rw [if_neg (fun h => h hz), if_pos k0]) (Ev.bind e1 hr)), hri⟩
    by_cases k1 : x.f0 = 1
    · have h1 : SM (n + x.f3.length) ⟨s.out, s.add ++ x.f3, s.cut⟩ := ⟨by have := h.len; show s.out.length ≤ _; omega, h.out, by have := h.addl; show (s.add ++ x.f3).length ≤ _; rw [List.length_append]; omega, fun y hy => by rcases List.mem_append.1 hy with hy | hy; exact h.add y hy; exact hx.2.2 y hy⟩
      obtain ⟨r, hr, hri⟩ := tidy_any ss _ _ h1 hs' (by omega)
      exact ⟨r, go r (Ev.congr (fun k => by rw [if_neg (fun h => h hz), if_neg k0, if_pos k1]) (Ev.bind (g := fun k => elemsF k s x.f3) (Ev.bind (copy_ev x.f3 hx.2) (Ev.congr (fun k => by rw [if_neg (by have := h.addl; omega)]) (Ev.now _))) hr)), hri⟩
    by_cases kc : wrap64 (s.cut + x.f1) > 2147483647
    · exact ⟨([], 3), go _ (Ev.congr (fun k => by rw [if_neg (fun h => h hz), if_neg k0, if_neg k1, if_pos kc]) (Ev.now _)), fun h => by cases h⟩
    · obtain ⟨r, hr, hri⟩ := tidy_any ss ⟨s.out, s.add, wrap64 (s.cut + x.f1)⟩ n ⟨h.len, h.out, h.addl, h.add⟩ hs' (by omega)
      exact ⟨r, go r (Ev.congr (fun k => by rw [if_neg (fun h => h hz), if_neg k0, if_neg k1, if_neg kc]) hr), hri⟩
def cut40 (f : List S84) : List S84 := if 40 < f.length then f.take 40 else f
structure TidyCore (k : Nat) (n : Nat) (raw : List Int) (parts : List S70) (d : List S70) : Prop where
  made : changeF k (n : Int) raw (⟨#[120]⟩ : ByteArray) = some d
  same : tidyF k d = some (d, 0)
  again : tidyF k (splitL d) = some (d, 0)
  eqs : ∀ x ∈ d, chanceryref1_SameAttrs.f k x.f2 x.f2 = some true ∧ chanceryref1_SameFlow.f k x.f3 x.f3 = some true
  fo : FO 2 d
  len : (units d).length ≤ 122
  any : ∃ c e, tidyF k parts = some (c, e) ∧ (e ≠ 0 ∨ e = 0 ∧ chanceryref1_DeltaError.f k c = some 0)
def TidyAt (k : Nat) (f : List S84) (raw : List Int) (parts : List S70) : Prop :=
  ∃ e, chanceryref1_PartError.f k (cut40 f) = some e ∧ (e ≠ 0 ∨ e = 0 ∧ ∃ d, TidyCore k (cut40 f).length raw parts d)
theorem eqs_ev {A : Nat} : ∀ (d : List S70), (∀ x ∈ d, SSm x) → ∃ K, ∀ k, K ≤ k → ∀ x ∈ d, chanceryref1_SameAttrs.f k x.f2 x.f2 = some true ∧ chanceryref1_SameFlow.f k x.f3 x.f3 = some true
  | [], _ => ⟨0, fun k _ x hx => by cases hx⟩
  | x :: d, h => by
    obtain ⟨K, hK⟩ := eqs_ev (A := A) d (fun y hy => h y (List.mem_cons_of_mem _ hy))
    obtain ⟨K1, h1⟩ := same_attrs_ev x.f2 (h x List.mem_cons_self).1.1
    obtain ⟨K2, h2⟩ := same_flow_ev x.f3 (h x List.mem_cons_self).2
    exact ⟨K + K1 + K2, fun k hk y hy => by
      rcases List.mem_cons.1 hy with rfl | hy
      · exact ⟨h1 k (by omega), h2 k (by omega)⟩
      · exact hK k (by omega) y hy⟩
theorem tidy_law (f : List S84) (raw : List Int) (parts : List S70) (hf : FFine f) (hp : DFine parts) : ∃ k, TidyAt k f raw parts := by
  have hcl : (cut40 f).length ≤ 40 ∧ ∀ x ∈ cut40 f, x ∈ f := by
    unfold cut40
    split
    · exact ⟨by rw [List.length_take]; omega, fun x hx => List.mem_of_mem_take hx⟩
    · exact ⟨by omega, fun x hx => hx⟩
  have hff : FFine (cut40 f) := ⟨by omega, fun x hx => hf.2 x (hcl.2 x hx)⟩
  obtain ⟨e, he, hei⟩ := rpart_ev (cut40 f) hff.fsmall
  by_cases h0 : e = 0
  rotate_left
  · obtain ⟨k, hk⟩ := he.rounds
    exact ⟨k, e, hk, .inl h0⟩
  obtain ⟨d, hd, hc⟩ := change_ev (cut40 f).length raw x_ok (by omega)
  have hcc := hc.counts
  obtain ⟨t1, t2⟩ := tidy_back hc.fo (by omega) (by omega)
  have hsm : DSm d := dsm hc.fo.ok (hc.fo.db (n := 1073741824) (by omega) (by omega)) (Nat.le_refl _)
  obtain ⟨K5, h5⟩ := eqs_ev (A := 0) d hsm.2
  obtain ⟨⟨c, ce⟩, hr, hri⟩ := tidy_any parts ⟨[], [], 0⟩ 0 ⟨Nat.zero_le _, (fun x hx => by cases hx), Nat.zero_le _, (fun x hx => by cases hx)⟩ hp.dsm.2 (by have := hp.1; have := hp.2.1; omega)
  have hr' : Ev (fun k => tidyF k parts) (c, ce) := Ev.congr (fun k => by unfold tidyF; rw [if_neg (by have := hp.1; omega)]) hr
  obtain ⟨K0, g0⟩ := he
  obtain ⟨K1, g1⟩ := hd
  obtain ⟨K2, g2⟩ := t1
  obtain ⟨K3, g3⟩ := t2
  obtain ⟨K4, g4⟩ := hr'
  by_cases hz : ce = 0
  · obtain ⟨hs, hok⟩ := hri hz
    obtain ⟨q, hq, hqi⟩ := rcheck_ev c hs
    obtain rfl := hqi.2 hok
    obtain ⟨K6, g6⟩ := hq
    exact ⟨K0 + K1 + K2 + K3 + K4 + K5 + K6, e, g0 _ (by omega), .inr ⟨h0, d, g1 _ (by omega), g2 _ (by omega), g3 _ (by omega), h5 _ (by omega), hc.fo, by omega, c, ce, g4 _ (by omega), .inr ⟨hz, g6 _ (by omega)⟩⟩⟩
  · exact ⟨K0 + K1 + K2 + K3 + K4 + K5, e, g0 _ (by omega), .inr ⟨h0, d, g1 _ (by omega), g2 _ (by omega), g3 _ (by omega), h5 _ (by omega), hc.fo, by omega, c, ce, g4 _ (by omega), .inl hz⟩⟩
structure TsS (wB : World) (out : List S70) (v : Value) (wr : World) : Prop where
  row : Kd.N k70 70 wr wB.heap.size (fun _ => True) v out
  bel : Below wB.heap.size wB wr
structure TsB (wB : World) (gb : Nat) (x : S70) (A2 : Option Addr) (c2 : Nat) (A3 : Option Addr) (c3 : Nat) (out : List S70) (v : Value) (wr : World) : Prop where
  st : TsS wB out v wr
  bk : wr.heap[gb]? = some (.cells #[.int .i64 x.f0, .int .i64 x.f1, .slice A2 x.f2.length c2, .slice A3 x.f3.length c3] 70 (0, 0))
  ne : some gb ≠ v.ownBlock
section
variable {wB wr w1 : World} {gb : Nat} {x : S70} {A2 A3 : Option Addr} {c2 c3 : Nat} {out out' : List S70} {v v1 : Value}
theorem TsB.app (h : TsB wB gb x A2 c2 A3 c3 out v wr) (hR : Kd.N k70 70 w1 wB.heap.size (fun _ => True) v1 out') (hB : Below wB.heap.size wB w1) (hg : wr.grownBy w1 v.ownBlock) (hat : v1.ownBlock = v.ownBlock ∨ ∃ b, v1.ownBlock = some b ∧ wr.heap.size ≤ b) : TsB wB gb x A2 c2 A3 c3 out' v1 w1 := by
  have hlt := blk_lt h.bk
  refine ⟨⟨hR, hB⟩, blk_grown h.bk hg h.ne, ?_⟩
  rcases hat with e | ⟨b, e, hb⟩
  · rw [e]; exact h.ne
  · rw [e]; intro he; injection he with he; omega
theorem TsB.made (h : TsB wB gb x A2 c2 A3 c3 out v wr) (hg : wr.grownBy w1 none) (hB : Below wB.heap.size wB w1) : TsB wB gb x A2 c2 A3 c3 out v w1 :=
  ⟨⟨Kd.N_grown h.st.row hg (fun _ _ => by simp), hB⟩, blk_grown h.bk hg (by simp), h.ne⟩
theorem TsS.away (h : TsS wB out v wr) (k : Nat) (hk : k < wB.heap.size) : True ∧ some k ≠ v.ownBlock := ⟨trivial, fun e => by have := Kd.N_base h.row k e.symm; omega⟩
theorem TsS.attrs (h : TsS wB out v wr) {A : Option Addr} {l : List S38} (hC : Kd.C k38 wB A l.length l) : Kd.F k38 wr (fun k => k < wB.heap.size) A l.length l := Kd.F_step (Kd.C_F k38_heap hC) (fun k hk _ => h.bel.block k hk)
theorem TsS.elems (h : TsS wB out v wr) {A : Option Addr} {l : List S84} (hC : Kd.C k84 wB A l.length l) : Kd.F k84 wr (fun k => k < wB.heap.size) A l.length l := Kd.F_step (Kd.C_F k84_heap hC) (fun k hk _ => h.bel.block k hk)
end
theorem take_one {l : List S84} {j : Nat} (h : j < l.length) : (l.take (j + 1)).drop j = [rd_T84 l (j : Int)] := by
  rw [List.drop_take, drop_T84 l j h, show j + 1 - j = 1 by omega]
  rfl
theorem take_succ84 {l : List S84} {j : Nat} (h : j < l.length) : l.take (j + 1) = l.take j ++ [rd_T84 l (j : Int)] := by
  rw [← take_one h]
  conv => lhs; rw [← List.take_append_drop j (l.take (j + 1)), List.take_take, Nat.min_eq_left (Nat.le_succ j)]
set_option maxRecDepth 100000 in
set_option maxHeartbeats 4000000 in
theorem tidyLaw_calls (k : Nat) (A0 : Option Addr) (c0 : Nat) (f : List S84) (A1 : Option Addr) (c1 : Nat) (raw : List Int) (A2 : Option Addr) (c2 : Nat) (parts : List S70) (w : World) (hr0 : Kd.C k84 w A0 f.length f) (hc0 : f.length ≤ c0) (hr1 : Kd.C (Kd.int .i64) w A1 raw.length raw) (hc1 : raw.length ≤ c1) (hr2 : Kd.C k70 w A2 parts.length parts) (hc2 : parts.length ≤ c2) (h : TidyAt k f raw parts) :
    Calls Try.prog 10 #[.slice A0 f.length c0, .slice A1 raw.length c1, .slice A2 parts.length c2] w fun e w' => e = .returned (.bool true) ∧ Below w.heap.size w w' := by
  have hu70 := Try.underlying70
  have hu84 := Try.underlying84
  have HR0 := Aside0.mk hr0
  have HC0 := Aside0.mk hc0
  have HR1 := Aside0.mk hr1
  have HC1 := Aside0.mk hc1
  have HR2 := Aside0.mk hr2
  have HC2 := Aside0.mk hc2
  clear hr0 hc0 hr1 hc1 hr2 hc2
  obtain ⟨e, he, h⟩ := h
  have HE := Aside0.mk he
  have H := Aside0.mk h
  clear he h
  obtain ⟨ta, hta⟩ : ∃ t : Bool, decide ((40 : Int) < (f.length : Int)) = t := ⟨_, rfl⟩
  have hta2 : decide (40 < f.length) = ta := by rw [← hta]; exact decide_eq_decide.mpr (by omega)
  go_enter Try.func10, Try.ntmps10
  go_upto_if 22 with (go_at_call 41; (with_reducible refine (deltas_calls _).mono ?_); rintro e1 w1 ⟨rfl, hb⟩; have HB1 := Aside0.mk hb; clear hb)
  go_cut [0] (fun v0 wx => Aside0 (v0 = .slice A0 (cut40 f).length c0) ∧ Aside0 (Below w.heap.size w wx))
  case first =>
    cases ta with
    | true =>
      have hl := of_decide_eq_true hta2
      have HE61 := Aside0.mk (show (cut40 f).length = 40 by unfold cut40; rw [if_pos hl, List.length_take]; omega)
      have s1 : (40 : Int) ≤ (c0 : Int) := by have := HC0.out; omega
      have s1' : (40 : Nat) ≤ c0 := by omega
      have s2 : decide ((40 : Int) ≤ (c0 : Int)) = true := decide_eq_true s1
      have s2' : decide (40 ≤ c0) = true := decide_eq_true s1'
      clear hl hta hta2
      go_wp2
      go_meet
      case rel => exact ⟨⟨by rw [HE61.out]⟩, HB1⟩
    | false =>
      have hl := of_decide_eq_false hta2
      have HE61 := Aside0.mk (show cut40 f = f from if_neg hl)
      clear hl hta hta2
      go_wp2
      go_meet
      case rel => exact ⟨⟨by rw [HE61.out]⟩, HB1⟩
  case rest =>
  clear hta hta2
  obtain ⟨hv0, HB2⟩ := hcut
  have hv0' := hv0.out
  subst hv0'
  clear hv0 HB1
  have HF : Aside0 (Kd.C k84 w A0 (cut40 f).length (cut40 f) ∧ (cut40 f).length ≤ c0) := ⟨by
    have := HC0.out
    unfold cut40
    split
    · exact ⟨Kd.C_take HR0.out (by omega), by rw [List.length_take]; omega⟩
    · exact ⟨HR0.out, this⟩⟩
  obtain ⟨f', hf'⟩ : ∃ f', f' = cut40 f := ⟨_, rfl⟩
  rw [← hf'] at HF HE H
  rw [← hf']
  clear hf' HR0 HC0
  rcases H.out with h0 | ⟨h0, d, hd⟩
  · have h0b : (e != 0) = true := bne_iff_ne.mpr h0
    clear h0 H
    go_wp2_with (go_at_call 42; (with_reducible refine (chanceryref1_PartError.calls k _ _ f' e _ (Kd.C_below HF.out.1 HB2.out) HF.out.2 HE.out).mono ?_); rintro e1 w2 ⟨rfl, hb⟩; have HB3 := Aside0.mk (below_step HB2.out hb); clear hb)
    first | go_ret | go_ret2
    exact ⟨rfl, HB3.out⟩
  have h0b : (e != 0) = false := by simpa using h0
  have HD := Aside0.mk hd
  clear h0 H hd
  go_upto_region 9 with (first
    | (go_at_call 42; (with_reducible refine (chanceryref1_PartError.calls k _ _ f' e _ (Kd.C_below HF.out.1 HB2.out) HF.out.2 HE.out).mono ?_); rintro e1 w2 ⟨rfl, hb⟩; have HB3 := Aside0.mk (below_step HB2.out hb); clear hb)
    | (go_at_call 43; (with_reducible refine (change_calls k (f'.length : Int) A1 c1 raw (⟨#[120]⟩ : ByteArray) d _ (Kd.C_below HR1.out HB3.out) HC1.out HD.out.made).mono ?_); rintro e1 w4 ⟨v4, rfl, hR, hb⟩; obtain ⟨A4, n4, rfl⟩ := Kd.N_slice hR; have HR4 := Aside0.mk hR; have HB4 := Aside0.mk (below_step HB3.out hb); clear hR hb)
    | (go_at_call 44; (with_reducible refine (tidy_calls k A4 n4 d d 0 w4 (Kd.N_reads' HR4.out).2.2 (Kd.N_reads' HR4.out).2.1 HD.out.same).mono ?_); rintro e1 w5 ⟨v5, rfl, hR, hb⟩; obtain ⟨A5, n5, rfl⟩ := Kd.N_slice hR; have HR5 := Aside0.mk hR; have HRD := Aside0.mk (And.intro (Kd.C_below (Kd.N_reads' HR4.out).2.2 hb) (Kd.N_reads' HR4.out).2.1); have HB5 := Aside0.mk (below_step HB4.out hb); clear hR hb HR4))
  have HRS := Aside0.mk (And.intro (Kd.N_reads' HR5.out).2.2 (Kd.N_reads' HR5.out).2.1)
  have HDL := Aside0.mk (show d.length ≤ 122 ∧ (splitL d).length ≤ 244 ∧ ∀ s ∈ d, s.f1.toNat ≤ 122 ∧ s.f3.length ≤ 122 by
    have h1 := HD.out.fo
    have h2 := HD.out.len
    have h3 := units_len h1.ok
    have h4 := split_len d h1.ok
    refine ⟨by omega, by omega, fun s hs => ?_⟩
    have h5 := units_mem h1.ok s hs
    have h6 := us_len (h1.ok s hs)
    omega)
  have HJ0 := Aside0.mk (show TsS w5 [] (.slice none 0 0) w5 from ⟨Kd.N_nil _ _ _ _ _, Below.refl _ _⟩)
  clear HR5
  go_wp2
  go_loopg [10, 39] d.length (fun m v10 v39 wr => ∃ (i : Nat), v39 = .int .i64 (i : Int) ∧ Aside0 (m + i = d.length) ∧ Aside0 (TsS w5 (splitL (d.take i)) v10 wr))
  case atStart => exact ⟨0, rfl, ⟨rfl⟩, HJ0⟩
  case round =>
    clear HJ0
    obtain ⟨i, rfl, HI, HS⟩ := hrel
    by_cases d2 : i < d.length
    rotate_left
    · have g1 : decide ((i : Int) < (d.length : Int)) = false := decide_eq_false (by omega)
      have g1' : decide (i < d.length) = false := decide_eq_false d2
      have HS1 : Aside0 (TsS w5 (splitL d) u10 wr) := ⟨by have := HS.out; rw [List.take_of_length_le (by omega)] at this; exact this⟩
      clear d2 HS
      obtain ⟨A6, n6, e6⟩ := Kd.N_slice HS1.out.row
      subst e6
      have HB6 := Aside0.mk (below_step HB5.out HS1.out.bel)
      have HRP := Aside0.mk (Kd.N_reads' HS1.out.row).2
      obtain ⟨c, ce, hc, hce⟩ := HD.out.any
      have HCE := Aside0.mk hc
      have HCF := Aside0.mk hce
      clear hc hce
      go_upto_region 25 with (first
        | (go_at_call 44; (with_reducible refine (tidy_calls k A6 n6 (splitL d) d 0 wr HRP.out.2 HRP.out.1 HD.out.again).mono ?_); rintro e1 w8 ⟨v8, rfl, hR, hb⟩; obtain ⟨A8, n8, rfl⟩ := Kd.N_slice hR; have HR8 := Aside0.mk hR; have HB8 := Aside0.mk (below_step HB6.out hb); have HX8 := Aside0.mk hb; clear hR hb)
        | (go_at_call 44; (with_reducible refine (tidy_calls k A2 c2 parts c ce w8 (Kd.C_below HR2.out HB8.out) HC2.out HCE.out).mono ?_); rintro e1 w9 ⟨v9, rfl, hR, hb⟩; obtain ⟨A9, n9, rfl⟩ := Kd.N_slice hR; have HR9 := Aside0.mk hR; have HB9 := Aside0.mk (below_step HB8.out hb); have HX9 := Aside0.mk hb; clear hR hb))
      have HT5 := Aside0.mk (show Below w5.heap.size w5 w9 from (HS1.out.bel.trans (HX8.out.mono HS1.out.bel.size)).trans (HX9.out.mono (Nat.le_trans HS1.out.bel.size HX8.out.size)))
      have HQ5 := Aside0.mk (show Kd.C k70 w9 A5 d.length d ∧ Kd.C k70 w9 A4 d.length d ∧ Kd.C k70 w9 A8 d.length d from ⟨Kd.C_below HRS.out.1 HT5.out, Kd.C_below HRD.out.1 HT5.out, Kd.C_below (Kd.N_reads' HR8.out).2.2 HX9.out⟩)
      rcases HCF.out with hz | ⟨hz, hde⟩
      · have z1 : (ce != 0) = true := bne_iff_ne.mpr hz
        clear hz
        go_wp2_with (first
          | (go_at_call 45; (with_reducible refine (sameD_calls k A5 n5 A4 n4 d w9 HQ5.out.1 HRS.out.2 HQ5.out.2.1 HRD.out.2 (by have := HDL.out.1; omega) HD.out.eqs).mono ?_); rintro e1 w10 ⟨rfl, hb⟩; have HB10 := Aside0.mk hb; clear hb)
          | (go_at_call 45; (with_reducible refine (sameD_calls k A8 n8 A4 n4 d w10 (Kd.C_below HQ5.out.2.2 HB10.out) (Kd.N_reads' HR8.out).2.1 (Kd.C_below HQ5.out.2.1 HB10.out) HRD.out.2 (by have := HDL.out.1; omega) HD.out.eqs).mono ?_); rintro e1 w11 ⟨rfl, hb⟩; have HB11 := Aside0.mk (below_step (below_step HB9.out HB10.out) hb); clear hb))
        first | go_ret | go_ret2
        exact ⟨rfl, HB11.out⟩
      · have z1 : (ce != 0) = false := by simpa using hz
        have HDE := Aside0.mk hde
        clear hz hde
        go_wp2_with (first
          | (go_at_call 45; (with_reducible refine (sameD_calls k A5 n5 A4 n4 d w9 HQ5.out.1 HRS.out.2 HQ5.out.2.1 HRD.out.2 (by have := HDL.out.1; omega) HD.out.eqs).mono ?_); rintro e1 w10 ⟨rfl, hb⟩; have HB10 := Aside0.mk hb; clear hb)
          | (go_at_call 45; (with_reducible refine (sameD_calls k A8 n8 A4 n4 d w10 (Kd.C_below HQ5.out.2.2 HB10.out) (Kd.N_reads' HR8.out).2.1 (Kd.C_below HQ5.out.2.1 HB10.out) HRD.out.2 (by have := HDL.out.1; omega) HD.out.eqs).mono ?_); rintro e1 w11 ⟨rfl, hb⟩; have HB11 := Aside0.mk (below_step (below_step HB9.out HB10.out) hb); have HX11 := Aside0.mk (below_step HB10.out hb); clear hb)
          | (go_at_call 46; (with_reducible refine (chanceryref1_DeltaError.calls k A9 n9 c 0 w11 (Kd.C_below (Kd.N_reads' HR9.out).2.2 HX11.out) (Kd.N_reads' HR9.out).2.1 HDE.out).mono ?_); rintro e1 w12 ⟨rfl, hb⟩; have HB12 := Aside0.mk (below_step HB11.out hb); clear hb))
        first | go_ret | go_ret2
        exact ⟨rfl, HB12.out⟩
    obtain ⟨gl, rfl⟩ : ∃ gl, gk = gl + 1 := ⟨gk - 1, by have := HI.out; omega⟩
    have g1 : decide ((i : Int) < (d.length : Int)) = true := decide_eq_true (by omega)
    have g1' : decide (i < d.length) = true := decide_eq_true d2
    have q1 : (i : Int) < (d.length : Int) := by omega
    obtain ⟨ad0, B2, m2, B3, m3, e0, hx0, hx1, hx2, hx3, hl2, hg2, hl3, hg3⟩ := at_T70 HRD.out.1 (i : Int) (by omega) q1
    cases e0
    replace hx0 := (HS.out.bel.cell (World.block_lt_of_cell? w5 _ hx0)).trans hx0
    replace hx1 := (HS.out.bel.cell (World.block_lt_of_cell? w5 _ hx1)).trans hx1
    replace hx2 := (HS.out.bel.cell (World.block_lt_of_cell? w5 _ hx2)).trans hx2
    replace hx3 := (HS.out.bel.cell (World.block_lt_of_cell? w5 _ hx3)).trans hx3
    simp only [Int.toNat_natCast] at hx0 hx1 hx2 hx3
    have hmem := rd70_mem d2
    have HTK := Aside0.mk (show splitL (d.take (i + 1)) = splitL (d.take i) ++ splitS (rd_T70 d (i : Int)) by
      have e1 : d.take (i + 1) = d.take i ++ [rd_T70 d (i : Int)] := by
        rw [List.take_add_one, List.getElem?_eq_getElem d2]
        simp [rd_T70, List.getD_eq_getElem?_getD, List.getElem?_eq_getElem d2]
      rw [e1]
      unfold splitL
      rw [List.flatMap_append]
      simp)
    have HXB := Aside0.mk (HDL.out.2.2 _ hmem)
    have HXO := Aside0.mk (HD.out.fo.ok _ hmem)
    have HXL := Aside0.mk (show (splitL (d.take i)).length ≤ 244 by
      have h1 := HDL.out.2.1
      have h2 : (splitL d).length = (splitL (d.take i)).length + (splitL (d.drop i)).length := by
        conv => lhs; rw [← List.take_append_drop i d]
        unfold splitL
        rw [List.flatMap_append, List.length_append]
      omega)
    have HIG := Aside0.mk (show gl + (i + 1) = d.length by have := HI.out; omega)
    have HWK := Aside0.mk (show wrap64 ((i : Int) + 1) = (i : Int) + 1 by have := HDL.out.1; unfold wrap64; omega)
    obtain ⟨x, hx⟩ : ∃ x, x = rd_T70 d (i : Int) := ⟨_, rfl⟩
    rw [← hx] at hx0 hx1 hx2 hx3 hl2 hg2 hl3 hg3 HTK HXB HXO
    have HG2 := Aside0.mk (show Kd.C k38 w5 B2 x.f2.length x.f2 ∧ x.f2.length ≤ m2 from ⟨hg2, hl2⟩)
    have HG3 := Aside0.mk (show Kd.C k84 w5 B3 x.f3.length x.f3 ∧ x.f3.length ≤ m3 from ⟨hg3, hl3⟩)
    clear hx d2 hmem hl2 hl3 hg2 hg3
    obtain ⟨j, hj⟩ : ∃ j : Nat, x.f1 = (j : Int) := ⟨x.f1.toNat, by
      rcases HXO.out with h | h | h <;> omega⟩
    have HJ := Aside0.mk hj
    obtain ⟨out, hout⟩ : ∃ out, out = splitL (d.take i) := ⟨_, rfl⟩
    rw [← hout] at HS HTK HXL
    clear hout
    have HT0 : Aside0 (TsB w5 wr.heap.size x B2 m2 B3 m3 out u10 (wr.alloc (Obj.cells #[.int .i64 x.f0, .int .i64 x.f1, .slice B2 x.f2.length m2, .slice B3 x.f3.length m3] 70 (0, 0)))) := by
      refine ⟨⟨⟨Kd.N_alloc HS.out.row _, below_alloc HS.out.bel _⟩, blk_new wr _, fun e => ?_⟩⟩
      have := Kd.N_lt HS.out.row _ e.symm
      omega
    clear hj HS
    go_upto_region 13 with (fail)
    obtain ⟨gb, hgb⟩ : ∃ g, g = wr.heap.size := ⟨_, rfl⟩
    obtain ⟨w6, hw6⟩ : ∃ w', w' = wr.alloc (Obj.cells #[.int .i64 x.f0, .int .i64 x.f1, .slice B2 x.f2.length m2, .slice B3 x.f3.length m3] 70 (0, 0)) := ⟨_, rfl⟩
    rw [← hgb, ← hw6] at HT0
    rw [← hgb, ← hw6]
    clear hgb hw6 hx0 hx1 hx2 hx3
    have q1 : w6.cell? ⟨gb, 1, none⟩ = some (.int .i64 (j : Int)) := by rw [← HJ.out]; exact (blk_cell HT0.out.bk 1).trans rfl
    go_wp2
    clear q1
    go_loopg [10, 45] j (fun m v10 v45 wx => ∃ (i2 : Nat), v45 = .int .i64 (i2 : Int) ∧ Aside0 (m + i2 = j) ∧ Aside0 (TsB w5 gb x B2 m2 B3 m3 (out ++ List.replicate i2 ⟨x.f0, 1, x.f2, []⟩) v10 wx))
    case atStart => exact ⟨0, rfl, ⟨rfl⟩, by simpa using HT0⟩
    case round =>
      clear HT0
      obtain ⟨i2, rfl, HI2, HT⟩ := hrel
      have hj2 : j ≤ 122 := by have := HXB.out.1; have := HJ.out; omega
      by_cases e2 : i2 < j
      · obtain ⟨g2, rfl⟩ : ∃ g2, gk = g2 + 1 := ⟨gk - 1, by have := HI2.out; omega⟩
        have k1 : decide ((i2 : Int) < (j : Int)) = true := decide_eq_true (by omega)
        have k1' : decide (i2 < j) = true := decide_eq_true e2
        have wk2 : wrap64 ((i2 : Int) + 1) = (i2 : Int) + 1 := by unfold wrap64; omega
        have HJ3 := Aside0.mk (show g2 + (i2 + 1) = j by have := HI2.out; omega)
        have HO2 := Aside0.mk (show (out ++ List.replicate (i2 + 1) (⟨x.f0, 1, x.f2, []⟩ : S70)) = (out ++ List.replicate i2 ⟨x.f0, 1, x.f2, []⟩) ++ [⟨x.f0, 1, x.f2, []⟩] by rw [List.replicate_succ', List.append_assoc])
        have HOL := Aside0.mk (show (out ++ List.replicate i2 (⟨x.f0, 1, x.f2, []⟩ : S70)).length ≤ 400 by rw [List.length_append, List.length_replicate]; have := HXL.out; omega)
        obtain ⟨o2, ho2⟩ : ∃ o, o = out ++ List.replicate i2 (⟨x.f0, 1, x.f2, []⟩ : S70) := ⟨_, rfl⟩
        rw [← ho2] at HT HO2 HOL
        clear ho2 e2
        obtain ⟨A6, n6, e6⟩ := Kd.N_slice HT.out.st.row
        subst e6
        have hc0 : wr.cell? ⟨gb, 0, none⟩ = some (.int .i64 x.f0) := (blk_cell HT.out.bk 0).trans rfl
        have hc2 : wr.cell? ⟨gb, 2, none⟩ = some (.slice B2 x.f2.length m2) := (blk_cell HT.out.bk 2).trans rfl
        go_upto_region 16 with (at_builtin; refine Kd.N_append k70 (w0 := w5) w5.heap.size rfl (.tmp 47) (.tmp 53) 64 70 (.agg #[.int .i64 0, .int .i64 0, .slice none 0 0, .slice none 0 0]) 64 rfl Try.underlying64 info70 rfl (by decide) (by decide) _ o2 ⟨x.f0, 1, x.f2, []⟩ _ (fun _ => True) (fun k => k < w5.heap.size) rfl (by simp [Act.eval]) (k70_mkF _ _ ⟨x.f0, 1, x.f2, []⟩ HG2.out.2 (HT.out.st.attrs HG2.out.1) (Nat.le_refl 0) (Kd.F_nil _ _ _)) (fun k hk => HT.out.st.away k hk) (fun _ _ => trivial) HT.out.st.row HT.out.st.bel HT.out.st.bel.size (by have := HOL.out; omega) ?_; intro v1 w7 hR hB hg hat; have HT7 := Aside0.mk (HT.out.app hR hB hg hat); clear hR hB hg hat)
        go_wp2
        go_roundg g2
        case measure => omega
        case rel => exact ⟨i2 + 1, by simp [wk2], HJ3, by rw [HO2.out]; exact HT7⟩
      obtain rfl : i2 = j := by have := HI2.out; omega
      have k1 : decide ((i2 : Int) < (i2 : Int)) = false := decide_eq_false (by omega)
      have k1' : decide (i2 < i2) = false := decide_eq_false e2
      have HSP := Aside0.mk (show splitS x = List.replicate i2 ⟨x.f0, 1, x.f2, []⟩ ++ (x.f3.take x.f3.length).flatMap oneE by unfold splitS; rw [HJ.out, Int.toNat_natCast, List.take_length])
      have HO3 := Aside0.mk (show (out ++ List.replicate i2 (⟨x.f0, 1, x.f2, []⟩ : S70)).length ≤ 400 by rw [List.length_append, List.length_replicate]; have := HXL.out; omega)
      have HTK2 := Aside0.mk (show splitL (d.take (i + 1)) = (out ++ List.replicate i2 (⟨x.f0, 1, x.f2, []⟩ : S70)) ++ (x.f3.take x.f3.length).flatMap oneE by rw [HTK.out, HSP.out, List.append_assoc])
      obtain ⟨o3, ho3⟩ : ∃ o, o = out ++ List.replicate i2 (⟨x.f0, 1, x.f2, []⟩ : S70) := ⟨_, rfl⟩
      rw [← ho3] at HT HO3 HTK2
      clear ho3 e2 HSP HTK HJ
      have hc3 : wr.cell? ⟨gb, 3, none⟩ = some (.slice B3 x.f3.length m3) := (blk_cell HT.out.bk 3).trans rfl
      go_wp2
      clear hc3 k1 k1'
      go_loopg [10, 13, 59] x.f3.length (fun m v10 v13 v59 wx => ∃ (i3 : Nat), v59 = .int .i64 (i3 : Int) ∧ Aside0 (m + i3 = x.f3.length) ∧ Aside0 (TsB w5 gb x B2 m2 B3 m3 (o3 ++ (x.f3.take i3).flatMap oneE) v10 wx))
      case atStart => exact ⟨0, rfl, ⟨rfl⟩, by simpa using HT⟩
      case round =>
        clear HT
        obtain ⟨i3, rfl, HI3, HT⟩ := hrel
        by_cases e3 : i3 < x.f3.length
        rotate_left
        · have k1 : decide ((i3 : Int) < (x.f3.length : Int)) = false := decide_eq_false (by omega)
          have k1' : decide (i3 < x.f3.length) = false := decide_eq_false e3
          obtain rfl : i3 = x.f3.length := by have := HI3.out; omega
          have HSN : Aside0 (TsS w5 (splitL (d.take (i + 1))) u10 wr) := ⟨by rw [HTK2.out]; exact HT.out.st⟩
          have wk := HWK.out
          clear e3 HT
          go_wp2
          go_roundg gl
          case measure => omega
          case rel => exact ⟨i + 1, by simp [wk], HIG, HSN⟩
        obtain ⟨g3, rfl⟩ : ∃ g3, gk = g3 + 1 := ⟨gk - 1, by have := HI3.out; omega⟩
        have k1 : decide ((i3 : Int) < (x.f3.length : Int)) = true := decide_eq_true (by omega)
        have k1' : decide (i3 < x.f3.length) = true := decide_eq_true e3
        have wk3 : wrap64 ((i3 : Int) + 1) = (i3 : Int) + 1 := by have := HXB.out.2; unfold wrap64; omega
        have HJ3 := Aside0.mk (show g3 + (i3 + 1) = x.f3.length by have := HI3.out; omega)
        have HO4 := Aside0.mk (show (o3 ++ (x.f3.take (i3 + 1)).flatMap oneE) = (o3 ++ (x.f3.take i3).flatMap oneE) ++ [⟨1, 0, [], [rd_T84 x.f3 (i3 : Int)]⟩, ⟨0, 0, [], []⟩] by
          rw [take_succ84 e3, List.flatMap_append, List.append_assoc]
          rfl)
        have HOL := Aside0.mk (show (o3 ++ (x.f3.take i3).flatMap oneE).length ≤ 1000 by
          have h2 : ∀ l : List S84, (l.flatMap oneE).length = 2 * l.length := fun l => by
            induction l with
            | nil => rfl
            | cons y l ih2 => rw [List.flatMap_cons, List.length_append, ih2]; simp [oneE]; omega
          rw [List.length_append, h2, List.length_take]
          have := HO3.out
          have := HXB.out.2
          omega)
        obtain ⟨iz, hiz, _, hsz, _⟩ := info_parts info84
        have hct : ∀ W : World, (Instr.slice 63 (.slice B3 x.f3.length m3) (some (.int .i64 (i3 : Int))) (some (.int .i64 ((i3 : Int) + 1))) none).run Try.prog W = .ok (.slice (if m3 = i3 then B3 else B3.map (·.add (i3 * 3))) 1 (m3 - i3)) W := by
          have := cut_mid (P := Try.prog) 63 84 .i64 .i64 Try.underlying63 hiz 3 hsz B3 x.f3.length m3 (i3 : Int) ((i3 : Int) + 1) (by omega) (by omega) (by omega) HG3.out.2
          rw [Int.toNat_natCast, show ((i3 : Int) + 1).toNat - i3 = 1 by omega] at this
          exact this
        have HF1 := Aside0.mk (show Kd.F k84 wr (fun k => k < w5.heap.size) (if m3 = i3 then B3 else B3.map (·.add (i3 * 3))) 1 [rd_T84 x.f3 (i3 : Int)] by
          have := Kd.F_mid (lo := i3) (hi := i3 + 1) (HT.out.st.elems HG3.out.1) (by omega) (by omega) HG3.out.2
          rw [take_one e3] at this
          exact this)
        have HM1 := Aside0.mk (show 1 ≤ m3 - i3 by have := HG3.out.2; omega)
        obtain ⟨B4, hB4⟩ : ∃ B, B = (if m3 = i3 then B3 else B3.map (·.add (i3 * 3))) := ⟨_, rfl⟩
        rw [← hB4] at HF1 hct
        obtain ⟨y, hy⟩ : ∃ y, y = rd_T84 x.f3 (i3 : Int) := ⟨_, rfl⟩
        rw [← hy] at HF1 HO4
        obtain ⟨o4, ho4⟩ : ∃ o, o = o3 ++ (x.f3.take i3).flatMap oneE := ⟨_, rfl⟩
        rw [← ho4] at HT HO4 HOL
        clear ho4 hy hB4 hiz hsz e3
        obtain ⟨A6, n6, e6⟩ := Kd.N_slice HT.out.st.row
        subst e6
        have hc3 : wr.cell? ⟨gb, 3, none⟩ = some (.slice B3 x.f3.length m3) := (blk_cell HT.out.bk 3).trans rfl
        go_upto_region 21 with (first
          | ((with_reducible refine gate_dst (N := 71) rfl ?_); refine Kd.N_lit k70 (w0 := w5) w5.heap.size 70 ?hg (N' := 71) ?hd (xs := [⟨1, 0, [], [y]⟩, ⟨0, 0, [], []⟩]) (inner := [.int .i64 1, .int .i64 0, .slice none 0 0, .slice B4 1 (m3 - i3), .int .i64 0, .int .i64 0, .slice none 0 0, .slice none 0 0]) (ok := fun k => k < w5.heap.size ∨ k = wr.heap.size) (okp := fun k => k < w5.heap.size) ?hr ?hp (fun _ hk => Or.inl hk) (Or.inr rfl) HT.out.st.bel HT.out.st.bel.size (by simp) ?_; (case hd => rfl); (case hg => rfl); (case hr => first | (go_simp; done) | (go_simp; rfl)); (case hp => exact Reps.c4 (k70_mkF _ _ ⟨1, 0, [], [y]⟩ (Nat.le_refl 0) (Kd.F_nil _ _ _) HM1.out HF1.out) (Reps.c4 (k70_mkF _ _ ⟨0, 0, [], []⟩ (Nat.le_refl 0) (Kd.F_nil _ _ _) (Nat.le_refl 0) (Kd.F_nil _ _ _)) (Reps.none _ _))); intro v7 w7 hR hB hg hat; obtain ⟨A7, n7, e7⟩ : ∃ A c, v7 = .slice A 2 c := Kd.N_slice hR; subst e7; have HT7 := Aside0.mk (HT.out.made hg hB); have HL7 := Aside0.mk (Kd.N_F hR); have HA7 := Aside0.mk (show ∀ k, (k < w5.heap.size ∨ k = wr.heap.size) → True ∧ some k ≠ (Value.slice A6 o4.length n6).ownBlock from fun k hk => ⟨trivial, fun e => by have h1 := Kd.N_base HT.out.st.row k e.symm; have h2 := Kd.N_lt HT.out.st.row k e.symm; omega⟩); clear hR hB hg hat)
          | (at_builtin; refine Kd.N_append_rows k70 (w0 := w5) w5.heap.size rfl (.tmp 62) (.tmp 71) 64 70 (.agg #[.int .i64 0, .int .i64 0, .slice none 0 0, .slice none 0 0]) 64 rfl Try.underlying64 info70 rfl (by decide) (by decide) _ o4 [⟨1, 0, [], [y]⟩, ⟨0, 0, [], []⟩] A7 2 n7 (fun _ => True) (fun k => k < w5.heap.size ∨ k = wr.heap.size) rfl rfl HT7.out.st.row HL7.out HA7.out (fun _ _ => trivial) HT7.out.st.bel HT7.out.st.bel.size (by have := HOL.out; omega) ?_; intro v1 w8 hR hB hg hat; have HT8 := Aside0.mk (HT7.out.app hR hB hg hat); clear hR hB hg hat))
        clear hct hc3
        go_wp2
        go_roundg g3
        case measure => omega
        case rel => exact ⟨i3 + 1, by simp [wk3], HJ3, by rw [HO4.out]; exact HT8⟩
end Go.Proofs.Ytdgemabmmomebaa.PDelta
end

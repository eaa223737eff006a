/- Parts of the proof of Undo: nothing is claimed here by itself. -/
import Derived.Test.YtdgemabmmomebaaKUndo4
import Derived.StillTailTactics
section
namespace Go.Proofs.Ytdgemabmmomebaa.PDelta
open Go.RowKit Go.Proofs.YtdgemabmmomebaaW.PrintWords Go.Proofs.YtdgemabmmomebaaW.PrintLast Go.Proofs.YtdgemabmmomebaaW.PrintMore
set_option linter.unusedVariables false
set_option linter.unusedSimpArgs false
theorem flushD_len (out : List S70) (add : List S84) (c : Int) : out.length ≤ (flushD out add c).length ∧ (flushD out add c).length ≤ out.length + 2 := by
  unfold flushD addD cutD
  repeat (first | split | simp)
def keepB (k : Nat) (o : List S70) (attrs : List S38) : Option Bool :=
  if 0 < o.length then (if (rd_T70 o ((o.length : Int) - 1)).f0 = 0 then attr_Same.f k (rd_T70 o ((o.length : Int) - 1)).f2 attrs else some false) else some false
def keepO (o : List S70) (n : Int) (attrs : List S38) : Bool → List S70
  | true => o.set (o.length - 1) ⟨(rd_T70 o ((o.length : Int) - 1)).f0, wrap64 ((rd_T70 o ((o.length : Int) - 1)).f1 + n), (rd_T70 o ((o.length : Int) - 1)).f2, (rd_T70 o ((o.length : Int) - 1)).f3⟩
  | false => o ++ [⟨0, n, attrs, []⟩]
theorem wrd_seg {ok : Nat → Prop} {w0 wI w : World} {g go n cap j : Nat} {vI uI u : Value} {o o' : List S70} {a : List S84} {c : Int} {x : Value} (h : WrD ok w0 wI g vI uI o a c (.slice (some ⟨go, 0, none⟩) n cap) u w) (hne : go ≠ g) (hgo : w0.heap.size ≤ go)
    (hR : Kd.N k70 70 (w.setCell ⟨go, j, none⟩ x) w0.heap.size (fun k => (ok k ∧ k ≠ g) ∧ some k ≠ u.ownBlock) (.slice (some ⟨go, 0, none⟩) n cap) o') : WrD ok w0 wI g vI uI o' a c (.slice (some ⟨go, 0, none⟩) n cap) u (w.setCell ⟨go, j, none⟩ x) := by
  refine ⟨h.ge, blk_far h.blk (fun e => hne e.symm) _, hR, Kd.N_far h.radd (fun k hk e => hk.2 (by rw [show k = go from e]; rfl)) _, below_set h.bel hgo, ⟨by have := h.mv.size; simp [World.setCell]; omega, fun k hk hgk hv hu => ?_, h.mv.ownv, h.mv.ownu⟩⟩
  have hk' : k ≠ go := by
    rcases h.mv.ownv with e | ⟨b, e, hb⟩
    · intro e2
      apply hv
      rw [← e, e2]
      rfl
    · have : go = b := by simpa [Value.ownBlock] using e
      omega
  rw [Below.heap_setCell _ _ _ _ hk', h.mv.frame k hk hgk hv hu]
theorem WrD.appv {ok : Nat → Prop} {w0 wI w w1 : World} {g : Nat} {vI uI v v1 : Value} {out out' : List S70} {cut : Int} (h : WrD ok w0 wI g vI uI out [] cut v (.slice none 0 0) w) (hR : Kd.N k70 70 w1 w0.heap.size (fun k => (ok k ∧ k ≠ g) ∧ some k ≠ (Value.slice none 0 0).ownBlock) v1 out') (hB : Below w0.heap.size w0 w1) (hg : w.grownBy w1 v.ownBlock)
    (hat : v1.ownBlock = v.ownBlock ∨ ∃ b, v1.ownBlock = some b ∧ w.heap.size ≤ b) :
    w1.heap[g]? = some (.cells #[v, .slice none 0 0, .int .i64 cut] 127 (0, 0)) ∧ WrD ok w0 wI g vI uI out' [] cut v1 (.slice none 0 0) (w1.setCell ⟨g, 0, none⟩ v1) := by
  have hb := blk_grown h.blk hg (Kd.N_away h.row (fun _ hk => hk.1.2))
  exact ⟨hb, h.ge, blk_put hb 0 v1 rfl, Kd.N_far hR (fun _ hk => hk.1.2) v1, Kd.N_nil _ _ _ _ _, below_set hB h.ge, mv_set (mv_app h.mv hg hat) 0 v1⟩
theorem n38_tight {e : Nat} {w : World} {base : Nat} {ok ok' : Nat → Prop} {v : Value} {xs : List S38} (h : Kd.N k38 e w base ok v xs) (hok : ∀ k, v.ownBlock = some k → ok' k) : Kd.N k38 e w base ok' v xs := by
  obtain ⟨_, rows, hl, hR, hf⟩ := h
  refine ⟨hok, rows, hl, hR, fun j x c hx hc => ?_⟩
  obtain rfl := k38_open (Kd.FK_now (hf j x c hx hc))
  exact k38_mkF _ _ _
def Off (g : Nat) (v u : Value) (k : Nat) : Prop := (k ≠ g ∧ some k ≠ v.ownBlock) ∧ some k ≠ u.ownBlock
theorem off_move {wI w : World} {g : Nat} {vI uI v u : Value} {A : Option Addr} {n : Nat} {xs : List S38} (m : Moves2 wI w g vI uI v u) (h : Kd.F k38 wI (Off g vI uI) A n xs) : Kd.F k38 w (Off g v u) A n xs := by
  refine Kd.F_mono (Kd.F_step (Kd.F_bound h) (fun k hk hlt => m.frame k hlt hk.1.1.1 hk.1.1.2 hk.1.2)) (fun k hk => ⟨⟨hk.1.1.1, ?_⟩, ?_⟩)
  · rcases m.ownv with e | ⟨b, e, hb⟩
    · rw [e]; exact hk.1.1.2
    · rw [e]; intro h'; injection h' with h'; have := hk.2; omega
  · rcases m.ownu with e | e | ⟨b, e, hb⟩
    · rw [e]; exact hk.1.2
    · rw [e]; simp
    · rw [e]; intro h'; injection h' with h'; have := hk.2; omega
set_option maxRecDepth 100000 in
set_option maxHeartbeats 4000000 in
theorem keep_zero (ok : Nat → Prop) (w0 : World) (g : Nat) (out : List S70) (add : List S84) (cut : Int) (vI uI : Value) (w : World) (A : Option Addr) (c : Nat) (attrs : List S38) (h : WrD ok w0 w g vI uI out add cut vI uI w) :
    Calls Try.prog 86 #[.pointer (some ⟨g, 0, none⟩), .int .i64 0, .slice A attrs.length c] w fun e w' => e = .returned (.tuple #[]) ∧ WrD ok w0 w g vI uI out add cut vI uI w' := by
  have HS := Aside0.mk h
  clear h
  go_enter Try.func86, Try.ntmps86
  go_wp2
  refine bodyPost_ret (results_none (by first | rfl | kernel_rfl) _ _ _) rfl ?_
  exact ⟨rfl, HS.out⟩
set_option maxRecDepth 100000 in
set_option maxHeartbeats 8000000 in
theorem keep_calls (ok : Nat → Prop) (w0 : World) (g : Nat) (out : List S70) (add : List S84) (cut n : Int) (vI uI : Value) (w : World) (k : Nat) (A : Option Addr) (c : Nat) (attrs : List S38) (b : Bool) (h : WrD ok w0 w g vI uI out add cut vI uI w) (hok : ∀ k, w.heap.size ≤ k → ok k)
    (hF : Kd.F k38 w (Off g vI uI) A attrs.length attrs) (hc : attrs.length ≤ c) (hl : (out.length + 3) * 64 ≤ 140737488355328) (hla : attrs.length * 32 ≤ 140737488355328) (hn : n ≠ 0) (hb : keepB k (flushD out add cut) attrs = some b) :
    Calls Try.prog 86 #[.pointer (some ⟨g, 0, none⟩), .int .i64 n, .slice A attrs.length c] w fun e w' => e = .returned (.tuple #[]) ∧ ∃ v, WrD ok w0 w g vI uI (keepO (flushD out add cut) n attrs b) [] 0 v (.slice none 0 0) w' := by
  have hu70 := Try.underlying70
  have hu127 := Try.underlying127
  have hu38 := Try.underlying38
  have HFL := Aside0.mk (flush_calls ok w0 g out add cut vI uI w h hok (by omega))
  have HO := Aside0.mk hok
  have HF := Aside0.mk hF
  have HC := Aside0.mk hc
  have HLA := Aside0.mk hla
  have HL := Aside0.mk (show (flushD out add cut).length ≤ 2199023255551 by have := (flushD_len out add cut).2; omega)
  have c1b : (n == 0) = false := beq_eq_false_iff_ne.mpr hn
  clear h hok hF hc hl hla hn
  obtain ⟨o, ho⟩ : ∃ o, o = flushD out add cut := ⟨_, rfl⟩
  rw [← ho] at HFL HL hb ⊢
  clear ho
  go_enter Try.func86, Try.ntmps86
  go_wp2_with (go_at_call 110; refine HFL.out.mono ?_)
  rintro e w1 ⟨rfl, v, hS⟩
  obtain ⟨A1, n1, rfl⟩ := Kd.N_slice hS.row
  have HS := Aside0.mk hS
  have HF1 := Aside0.mk (off_move hS.mv HF.out)
  have hc0 : w1.cell? ⟨g, 0, none⟩ = some (.slice A1 o.length n1) := (blk_cell HS.out.blk 0).trans rfl
  have hf0 := blk_frozen HS.out.blk 0
  have hg : g < w1.heap.size := blk_lt hS.blk
  have hlen := HL.out
  clear hS HFL HF
  have hc0 : w1.cell? ⟨g, 0, none⟩ = some (.slice A1 o.length n1) := (blk_cell HS.out.blk 0).trans rfl
  go_upto_region 3 with (fail)
  go_cut [41] (fun v41 wx => v41 = .bool b ∧ Aside0 (WrD ok w0 w g vI uI o [] 0 (.slice A1 o.length n1) (.slice none 0 0) wx) ∧ Aside0 (Kd.F k38 wx (Off g (.slice A1 o.length n1) (.slice none 0 0)) A attrs.length attrs))
  case first =>
    by_cases hz : 0 < o.length
    · have p0 : 0 ≤ (o.length : Int) - 1 := by omega
      have q0 : (o.length : Int) - 1 < (o.length : Int) := by omega
      obtain ⟨go, co, eo, gb, gl, cells, hblk⟩ := Kd.N_form HS.out.row hz
      injection eo with ea en ec
      subst ea
      subst ec
      clear en
      obtain ⟨ce, hcl, hM, hcc, hfr⟩ := Kd.N_elem HS.out.row z70 ((o.length : Int) - 1) p0 q0
      obtain ⟨B2, m2, B3, m3, rfl, hm2, hF2, hm3, hF3⟩ := k70_openF hM
      have hix : ∀ j, (((o.length : Int) - 1).toNat * k70.sz + j) = (o.length - 1) * 4 + j := fun j => by show (((o.length : Int) - 1).toNat * 4 + j) = _; omega
      have hx0 : w1.cell? ⟨go, (o.length - 1) * 4, none⟩ = some (.int .i64 (rd_T70 o ((o.length : Int) - 1)).f0) := by
        have := hcc 0 _ rfl
        rwa [hix] at this
      have hx2 : w1.cell? ⟨go, (o.length - 1) * 4 + 2, none⟩ = some (.slice B2 (rd_T70 o ((o.length : Int) - 1)).f2.length m2) := by
        have := hcc 2 _ rfl
        rwa [hix] at this
      rw [keepB, if_pos hz] at hb
      by_cases hkp : (rd_T70 o ((o.length : Int) - 1)).f0 = 0
      · rw [if_pos hkp] at hb
        have c4 : ((rd_T70 o ((o.length : Int) - 1)).f0 == 0) = true := beq_iff_eq.mpr hkp
        have HB := Aside0.mk hb
        have HM2 := Aside0.mk hm2
        have HF2 := Aside0.mk hF2
        clear hb hm2 hF2 hm3 hF3 hM hcc hcl gb hkp gl hblk hfr hix
        go_wp2_with (go_at_call 111; refine (attr_Same.calls k B2 m2 (rd_T70 o ((o.length : Int) - 1)).f2 A c attrs b _ (Kd.F_now HF2.out) HM2.out (Kd.F_now HF1.out) HC.out HB.out).mono ?_; rintro e w2 ⟨rfl, hd⟩; obtain ⟨nd, rfl⟩ := hd)
        go_meet
        case rel => exact ⟨by cases b <;> rfl, ⟨HS.out.drewN nd⟩, ⟨Kd.F_drewN HF1.out nd⟩⟩
      · rw [if_neg hkp] at hb
        obtain rfl := Option.some.inj hb
        have c4 : ((rd_T70 o ((o.length : Int) - 1)).f0 == 0) = false := beq_eq_false_iff_ne.mpr hkp
        clear hb hm2 hF2 hm3 hF3 hM hcc hcl gb hkp gl hblk hfr hix
        go_wp2
        go_meet
        case rel => exact ⟨rfl, HS, HF1⟩
    · have hnil : o = [] := List.eq_nil_of_length_eq_zero (by omega)
      subst hnil
      rw [keepB, if_neg (by decide)] at hb
      obtain rfl := Option.some.inj hb
      go_wp2
      go_meet
      case rel => exact ⟨rfl, HS, HF1⟩
  case rest =>
    clear HS HF1 hc0 hf0 hg
    obtain ⟨rfl, HS, HF1⟩ := hcut
    have hc0 : wc.cell? ⟨g, 0, none⟩ = some (.slice A1 o.length n1) := (blk_cell HS.out.blk 0).trans rfl
    have hf0 := blk_frozen HS.out.blk 0
    have hg : g < wc.heap.size := blk_lt HS.out.blk
    cases b with
    | true =>
      have hz : 0 < o.length := by
        rw [keepB] at hb
        by_cases hz : 0 < o.length
        · exact hz
        · rw [if_neg hz] at hb; cases hb
      clear hb
      have p0 : 0 ≤ (o.length : Int) - 1 := by omega
      have q0 : (o.length : Int) - 1 < (o.length : Int) := by omega
      obtain ⟨go, co, eo, gb, gl, cells, hblk⟩ := Kd.N_form HS.out.row hz
      injection eo with ea en ec
      subst ea
      subst ec
      clear en
      obtain ⟨ce, hcl, hM, hcc, hfr⟩ := Kd.N_elem HS.out.row z70 ((o.length : Int) - 1) p0 q0
      obtain ⟨B2, m2, B3, m3, rfl, hm2, hF2, hm3, hF3⟩ := k70_openF hM
      have hne : go ≠ g := fun e => Kd.N_away HS.out.row (fun _ hk => hk.1.2) (by rw [e]; rfl)
      have hix : ∀ j, (((o.length : Int) - 1).toNat * k70.sz + j) = (o.length - 1) * 4 + j := fun j => by show (((o.length : Int) - 1).toNat * 4 + j) = _; omega
      have hx1 : wc.cell? ⟨go, (o.length - 1) * 4 + 1, none⟩ = some (.int .i64 (rd_T70 o ((o.length : Int) - 1)).f1) := by
        have := hcc 1 _ rfl
        rwa [hix] at this
      have hfx1 : wc.frozen? ⟨go, (o.length - 1) * 4 + 1, none⟩ = false := by
        have := hfr 1
        rwa [hix] at this
      have HSEG := Aside0.mk (Kd.N_seg HS.out.row ((o.length : Int) - 1) p0 q0 (seg := [.int .i64 (wrap64 ((rd_T70 o ((o.length : Int) - 1)).f1 + n))]) (j := 1) hcl hcc (by show 2 ≤ 4; omega)
        (x' := (⟨(rd_T70 o ((o.length : Int) - 1)).f0, wrap64 ((rd_T70 o ((o.length : Int) - 1)).f1 + n), (rd_T70 o ((o.length : Int) - 1)).f2, (rd_T70 o ((o.length : Int) - 1)).f3⟩ : S70)) (k70_mkF _ _ ⟨(rd_T70 o ((o.length : Int) - 1)).f0, wrap64 ((rd_T70 o ((o.length : Int) - 1)).f1 + n), (rd_T70 o ((o.length : Int) - 1)).f2, (rd_T70 o ((o.length : Int) - 1)).f3⟩ hm2 hF2 hm3 hF3) (fun _ hk => hk))
      have HN := Aside0.mk hne
      have HGB := Aside0.mk gb
      clear hcl hM hcc hfr gb gl hblk hne hm2 hF2 hm3 hF3 hix
      go_wp2
      refine bodyPost_ret (results_none (by first | rfl | kernel_rfl) _ _ _) rfl ?_
      refine ⟨rfl, .slice (some ⟨go, 0, none⟩) o.length n1, ?_⟩
      have h2 := HSEG.out.1
      simp only [World.setCells, show k70.sz = 4 from rfl, show ((o.length : Int) - 1).toNat = o.length - 1 by omega] at h2
      exact wrd_seg HS.out HN.out HGB.out h2
    | false =>
      clear hb
      have HD := Aside0.mk HS.out.drew
      have HFD := Aside0.mk (Kd.F_drew HF1.out)
      go_upto_region 5 with (fail)
      refine start_ (n := 14) (S := fun w' => w'.cell? ⟨g, 0, none⟩ = some (.slice A1 o.length n1)) (ds := [13]) #[false, false, false, false, false, false, false, false, false, false, false, false, false, false] (by kernel_rfl) rfl rfl (((blk_cell HD.out.blk 0).trans rfl)) (fun hHeld => ?_)
      refine pure_ (i := 0) (N := some 54) (v := ?_) (a' := ?_) #[true, false, false, false, false, false, false, false, false, false, false, false, false, false] rfl rfl (by kernel_rfl) (fun _ _ _ h => h) (Or.inl ⟨by rfl, ?_⟩) ?_ ?_
      rotate_left
      · intro w'
        go_simp
        with_reducible rfl
      rotate_left
      · simp only [Act.put, List.setIfInBounds_toArray, List.set_cons_zero, List.set_cons_succ, i64_w, i32_w]
        rfl
      refine pure_ (i := 1) (N := some 55) (v := ?_) (a' := ?_) #[true, true, false, false, false, false, false, false, false, false, false, false, false, false] rfl rfl (by kernel_rfl) (fun _ _ _ h => h) (Or.inl ⟨by rfl, ?_⟩) ?_ ?_
      rotate_left
      · intro w'
        go_simp
        with_reducible rfl
      rotate_left
      · simp only [Act.put, List.setIfInBounds_toArray, List.set_cons_zero, List.set_cons_succ, i64_w, i32_w]
        rfl
      refine pure_ (i := 2) (N := some 56) (v := ?_) (a' := ?_) #[true, true, true, false, false, false, false, false, false, false, false, false, false, false] rfl rfl (by kernel_rfl) (fun _ _ _ h => h) (Or.inl ⟨by rfl, ?_⟩) ?_ ?_
      rotate_left
      · intro w'
        go_simp
        with_reducible rfl
      rotate_left
      · simp only [Act.put, List.setIfInBounds_toArray, List.set_cons_zero, List.set_cons_succ, i64_w, i32_w]
        rfl
      refine pure_ (i := 3) (N := some 57) (v := ?_) (a' := ?_) #[true, true, true, true, false, false, false, false, false, false, false, false, false, false] rfl rfl (by kernel_rfl) (fun _ _ _ h => h) (Or.inl ⟨by rfl, ?_⟩) ?_ ?_
      rotate_left
      · intro w'
        go_simp
        with_reducible rfl
      rotate_left
      · simp only [Act.put, List.setIfInBounds_toArray, List.set_cons_zero, List.set_cons_succ, i64_w, i32_w]
        rfl
      refine pure_ (i := 5) (N := some 59) (v := ?_) (a' := ?_) #[true, true, true, true, false, true, false, false, false, false, false, false, false, false] rfl rfl (by kernel_rfl) (fun _ _ _ h => h) (Or.inl ⟨by rfl, ?_⟩) ?_ ?_
      rotate_left
      · intro w'
        go_simp
        with_reducible rfl
      rotate_left
      · simp only [Act.put, List.setIfInBounds_toArray, List.set_cons_zero, List.set_cons_succ, i64_w, i32_w]
        rfl
      refine pure_ (i := 6) (N := some 60) (v := ?_) (a' := ?_) #[true, true, true, true, false, true, true, false, false, false, false, false, false, false] rfl rfl (by kernel_rfl) (fun _ _ _ h => h) (Or.inl ⟨by rfl, ?_⟩) ?_ ?_
      rotate_left
      · intro w'
        go_simp
        with_reducible rfl
      rotate_left
      · simp only [Act.put, List.setIfInBounds_toArray, List.set_cons_zero, List.set_cons_succ, i64_w, i32_w]
        rfl
      refine take_ (i := 4) (N := some 58) (v := ?_) (a' := ?_) #[true, true, true, true, true, true, true, false, false, false, false, false, false, false] rfl rfl (by kernel_rfl) (fun _ _ _ h => h) (Or.inl ⟨by rfl, ?_⟩) hHeld ?_ ?_
      rotate_left
      · intro w' s0
        go_simp
        with_reducible rfl
      rotate_left
      · simp only [Act.put, List.setIfInBounds_toArray, List.set_cons_zero, List.set_cons_succ, i64_w, i32_w]
        rfl
      refine one_ (i := 7) (N := some 61) #[true, true, true, true, true, true, true, true, false, false, false, false, false, false] rfl rfl (by kernel_rfl) (by decide) (fun K hK => ?_)
      refine Kd.N_append_rows_step k38 (w0 := wc.drew) wc.drew.heap.size (by rfl) (.const (.slice none 0 0)) (.tmp 60) 32 38 (.agg #[.string ⟨#[]⟩, .string ⟨#[]⟩]) 32 rfl Try.underlying32 info38 rfl (by decide) (by decide) (.slice none 0 0) [] attrs _ _ _ (fun _ => True) (Off g (.slice A1 o.length n1) (.slice none 0 0)) (by rfl) (by rfl) (Kd.N_nil _ _ _ _ _) HFD.out (fun _ _ => ⟨trivial, by simp [Value.ownBlock]⟩) (fun _ _ => trivial) (Below.refl _ _) (Nat.le_refl _) (by have := HLA.out; simp only [List.length_nil, Nat.zero_add]; exact this) ?_
      intro v3 w3 hN3 hb3 hg3 hat3
      rw [List.nil_append] at hN3
      replace hN3 := n38_tight hN3 (ok' := fun k => wc.drew.heap.size ≤ k) (fun k hk => Kd.N_base hN3 k hk)
      obtain ⟨A3, n3, rfl⟩ := Kd.N_slice hN3
      have HD3 := Aside0.mk (HD.out.below hb3)
      have HN3 := Aside0.mk hN3
      clear hN3 hb3 hg3 hat3
      refine hK.out _ _ (((blk_cell HD3.out.blk 0).trans rfl)) (fun hHeld => ?_)
      clear hK K
      refine norm_ (a' := ?_) ?_ ?_
      rotate_left
      · show Act.put _ (some 61) _ = _
        simp only [Act.put, List.setIfInBounds_toArray, List.set_cons_zero, List.set_cons_succ, i64_w, i32_w]
        rfl
      refine pure_ (i := 8) (N := some 62) (v := ?_) (a' := ?_) #[true, true, true, true, true, true, true, true, true, false, false, false, false, false] rfl rfl (by kernel_rfl) (fun _ _ _ h => h) (Or.inl ⟨by rfl, ?_⟩) ?_ ?_
      rotate_left
      · intro w'
        go_simp
        with_reducible rfl
      rotate_left
      · simp only [Act.put, List.setIfInBounds_toArray, List.set_cons_zero, List.set_cons_succ, i64_w, i32_w]
        rfl
      refine one_ (i := 9) (N := some 63) #[true, true, true, true, true, true, true, true, true, true, false, false, false, false] rfl rfl (by kernel_rfl) (by decide) (fun K hK => ?_)
      refine value_ (w1 := ?_) (v := ?_) (by rfl) rfl ?_ ?_
      rotate_left 2
      · go_simp
        constructor
        · rfl
        · rfl
      refine hK.out _ _ (((blk_cell (blk_alloc HD3.out.blk _) 0).trans rfl)) (fun hHeld => ?_)
      clear hK K
      refine norm_ (a' := ?_) ?_ ?_
      rotate_left
      · show Act.put _ (some 63) _ = _
        simp only [Act.put, List.setIfInBounds_toArray, List.set_cons_zero, List.set_cons_succ, i64_w, i32_w]
        rfl
      refine one_ (i := 10) (N := some 64) #[true, true, true, true, true, true, true, true, true, true, true, false, false, false] rfl rfl (by kernel_rfl) (by decide) (fun K hK => ?_)
      refine Kd.N_append_step k70 (w0 := w0) w0.heap.size (by rfl) (.tmp 58) (.tmp 63) 64 70 (.agg #[.int .i64 0, .int .i64 0, .slice none 0 0, .slice none 0 0]) 64 rfl Try.underlying64 info70 rfl (by decide) (by decide) _ o ⟨0, n, attrs, []⟩ [.int .i64 0, .int .i64 n, .slice A3 attrs.length n3, .slice none 0 0] (fun k => (ok k ∧ k ≠ g) ∧ some k ≠ (Value.slice none 0 0).ownBlock) (fun k => wc.drew.heap.size ≤ k) (by rfl) (by rfl) (k70_mkF _ _ ⟨0, n, attrs, []⟩ (Kd.N_reads' HN3.out).2.1 (Kd.N_F HN3.out) (Nat.le_refl 0) (Kd.F_nil _ _ _)) (fun k hk => ⟨⟨(HD.out.fresh HO.out k hk).1.1, by simp [Value.ownBlock]⟩, (HD.out.fresh HO.out k hk).1.2⟩) (fun k hk => ⟨(HD3.out.fresh HO.out k hk).1.1, by simp [Value.ownBlock]⟩) HD3.out.row HD3.out.bel HD3.out.bel.size (by have := HL.out; omega) ?_
      intro v1 w4 hR1 hB1 hg1 hat
      obtain ⟨A4, n4, rfl⟩ := Kd.N_slice hR1
      obtain ⟨hb1, hW⟩ := HD3.out.appv hR1 hB1 hg1 hat
      have HW := Aside0.mk hW
      have hd0 : w4.cell? ⟨g, 0, none⟩ = some (.slice A1 o.length n1) := (blk_cell hb1 0).trans rfl
      have hdf := blk_frozen hb1 0
      clear hR1 hB1 hg1 hat hb1 hW
      refine hK.out _ _ (hd0) (fun hHeld => ?_)
      clear hK K
      refine norm_ (a' := ?_) ?_ ?_
      rotate_left
      · show Act.put _ (some 64) _ = _
        simp only [Act.put, List.setIfInBounds_toArray, List.set_cons_zero, List.set_cons_succ, i64_w, i32_w]
        rfl
      refine pure_ (i := 11) (N := some 65) (v := ?_) (a' := ?_) #[true, true, true, true, true, true, true, true, true, true, true, true, false, false] rfl rfl (by kernel_rfl) (fun _ _ _ h => h) (Or.inl ⟨by rfl, ?_⟩) ?_ ?_
      rotate_left
      · intro w'
        go_simp
        with_reducible rfl
      rotate_left
      · simp only [Act.put, List.setIfInBounds_toArray, List.set_cons_zero, List.set_cons_succ, i64_w, i32_w]
        rfl
      refine pure_ (i := 12) (N := some 66) (v := ?_) (a' := ?_) #[true, true, true, true, true, true, true, true, true, true, true, true, true, false] rfl rfl (by kernel_rfl) (fun _ _ _ h => h) (Or.inl ⟨by rfl, ?_⟩) ?_ ?_
      rotate_left
      · intro w'
        go_simp
        with_reducible rfl
      rotate_left
      · simp only [Act.put, List.setIfInBounds_toArray, List.set_cons_zero, List.set_cons_succ, i64_w, i32_w]
        rfl
      refine last_ (i := 13) (N := none) #[true, true, true, true, true, true, true, true, true, true, true, true, true, true] rfl rfl (by kernel_rfl) (by decide) (fun K hK => ?_)
      refine skip_ (w1 := ?_) (by rfl) rfl ?_ ?_
      rotate_left
      · go_simp
        rfl
      refine hK.out _ _ ?_
      clear hK K
      refine done_ (by kernel_rfl) ?_
      go_wp2
      go_end0
      exact ⟨rfl, _, by have := HW.out; rw [List.length_append] at this; exact this⟩
end Go.Proofs.Ytdgemabmmomebaa.PDelta
end
section
namespace Go.Proofs.Ytdgemabmmomebaa.PDelta
open Go.RowKit Go.Proofs.YtdgemabmmomebaaW.PrintWords Go.Proofs.YtdgemabmmomebaaW.PrintLast Go.Proofs.YtdgemabmmomebaaW.PrintMore
set_option linter.unusedVariables false
set_option linter.unusedSimpArgs false
structure WD where
  out : List S70
  add : List S84
  cut : Int
def keepF (k : Nat) (s : WD) (n : Int) (attrs : List S38) : Option WD :=
  if n = 0 then some s else if 1099511627776 < s.out.length ∨ 1099511627776 < attrs.length then none else (keepB k (flushD s.out s.add s.cut) attrs).bind fun b => some ⟨keepO (flushD s.out s.add s.cut) n attrs b, [], 0⟩
def elemsF (k : Nat) (s : WD) (l : List S84) : Option WD :=
  (flow_Copy.f k l).bind fun r => if 1099511627776 < s.add.length + r.length then none else some ⟨s.out, s.add ++ r, s.cut⟩
def doneD (k : Nat) (s : WD) : Option (List S70 × Int) :=
  if 1099511627776 < s.out.length then none else (delta_Check.f k (flushD s.out s.add s.cut)).bind fun e => if e ≠ 0 then some ([], 3) else some (flushD s.out s.add s.cut, 0)
def WrS (ok : Nat → Prop) (w0 wI : World) (g : Nat) (vI uI : Value) (s : WD) (v u : Value) (w : World) : Prop := WrD ok w0 wI g vI uI s.out s.add s.cut v u w
theorem keepF_calls (ok : Nat → Prop) (w0 : World) (g : Nat) (s s' : WD) (n : Int) (vI uI : Value) (w : World) (k : Nat) (A : Option Addr) (c : Nat) (attrs : List S38) (h : WrS ok w0 w g vI uI s vI uI w) (hok : ∀ k, w.heap.size ≤ k → ok k)
    (hF : Kd.F k38 w (Off g vI uI) A attrs.length attrs) (hc : attrs.length ≤ c) (hf : keepF k s n attrs = some s') :
    Calls Try.prog 86 #[.pointer (some ⟨g, 0, none⟩), .int .i64 n, .slice A attrs.length c] w fun e w' => e = .returned (.tuple #[]) ∧ ∃ v u, WrS ok w0 w g vI uI s' v u w' := by
  rw [keepF] at hf
  by_cases c1 : n = 0
  · rw [if_pos c1] at hf
    injection hf with hf
    subst hf
    subst c1
    exact (keep_zero ok w0 g s.out s.add s.cut vI uI w A c attrs h).mono (fun e w' ⟨he, hw⟩ => ⟨he, vI, uI, hw⟩)
  · rw [if_neg c1] at hf
    by_cases c2 : 1099511627776 < s.out.length ∨ 1099511627776 < attrs.length
    · rw [if_pos c2] at hf
      cases hf
    rw [if_neg c2] at hf
    obtain ⟨b, hb, hf⟩ := Option.bind_eq_some_iff.1 hf
    injection hf with hf
    subst hf
    exact (keep_calls ok w0 g s.out s.add s.cut n vI uI w k A c attrs b h hok hF hc (by omega) (by omega) c1 hb).mono (fun e w' ⟨he, v, hw⟩ => ⟨he, v, _, hw⟩)
theorem elemsF_calls (ok : Nat → Prop) (w0 : World) (g : Nat) (s s' : WD) (vI uI : Value) (w : World) (k : Nat) (A : Option Addr) (c : Nat) (l : List S84) (h : WrS ok w0 w g vI uI s vI uI w) (hok : ∀ k, w.heap.size ≤ k → ok k)
    (hr : Kd.C k84 w A l.length l) (hc : l.length ≤ c) (hf : elemsF k s l = some s') :
    Calls Try.prog 87 #[.pointer (some ⟨g, 0, none⟩), .slice A l.length c] w fun e w' => e = .returned (.tuple #[]) ∧ ∃ v u, WrS ok w0 w g vI uI s' v u w' := by
  obtain ⟨r, hr2, hf⟩ := Option.bind_eq_some_iff.1 hf
  by_cases c2 : 1099511627776 < s.add.length + r.length
  · rw [if_pos c2] at hf
    cases hf
  rw [if_neg c2] at hf
  injection hf with hf
  subst hf
  exact (elems_calls ok w0 g s.out s.add s.cut vI uI w k A c l r h hok hr hc hr2 (by omega)).mono (fun e w' ⟨he, u, hw⟩ => ⟨he, _, u, hw⟩)
set_option maxRecDepth 100000 in
set_option maxHeartbeats 4000000 in
theorem doneD_calls (ok : Nat → Prop) (w0 : World) (g : Nat) (s : WD) (r1 : List S70) (r2 : Int) (vI uI : Value) (w : World) (k : Nat) (h : WrS ok w0 w g vI uI s vI uI w) (hok : ∀ k, w.heap.size ≤ k → ok k) (hf : doneD k s = some (r1, r2)) :
    Calls Try.prog 88 #[.pointer (some ⟨g, 0, none⟩)] w fun e w' => ∃ v, e = .returned (.tuple #[v, .int .i64 r2]) ∧ Kd.N k70 70 w' w0.heap.size (fun k => ok k ∧ k ≠ g) v r1 ∧ Below w0.heap.size w0 w' ∧ ∃ vM, Moves2 w w' g vI uI vM (.slice none 0 0) ∧ (v.ownBlock = none ∨ v = vM) := by
  have hu70 := Try.underlying70
  have hu127 := Try.underlying127
  rw [doneD] at hf
  by_cases c2 : 1099511627776 < s.out.length
  · rw [if_pos c2] at hf
    cases hf
  rw [if_neg c2] at hf
  have HF := Aside0.mk (flush_calls ok w0 g s.out s.add s.cut vI uI w h hok (by omega))
  obtain ⟨o, ho⟩ : ∃ o, o = flushD s.out s.add s.cut := ⟨_, rfl⟩
  rw [← ho] at HF hf
  clear ho h hok c2
  replace hf := Option.bind_eq_some_iff.1 hf
  obtain ⟨e, he, hf⟩ := hf
  have HE := Aside0.mk he
  clear he
  by_cases c1 : e ≠ 0
  · rw [if_pos c1] at hf
    have c1b : (e != 0) = true := bne_iff_ne.mpr c1
    simp only [Option.some.injEq, Prod.mk.injEq] at hf
    obtain ⟨rfl, rfl⟩ := hf
    clear c1
    go_enter Try.func88, Try.ntmps88
    go_wp2_with (go_at_call 110; refine HF.out.mono ?_)
    rintro e1 w1 ⟨rfl, v, hS⟩
    obtain ⟨A1, n1, rfl⟩ := Kd.N_slice hS.row
    have HS := Aside0.mk hS
    have hc0 : w1.cell? ⟨g, 0, none⟩ = some (.slice A1 o.length n1) := (blk_cell HS.out.blk 0).trans rfl
    clear hS HF
    go_wp2_with (go_at_call 93; (with_reducible refine (delta_Check.calls k _ _ o e _ (Kd.N_reads' HS.out.row).2.2 (Kd.N_reads' HS.out.row).2.1 HE.out).mono ?_); rintro e1 w2 ⟨rfl, hb⟩; have HB2 := Aside0.mk hb; clear hb)
    first | go_ret | go_ret2
    refine ⟨_, rfl, Kd.N_nil _ _ _ _ _, below_step HS.out.bel HB2.out, _, (HS.out.below HB2.out).mv, .inl rfl⟩
  · rw [if_neg c1] at hf
    have c1b : (e != 0) = false := by simpa using c1
    simp only [Option.some.injEq, Prod.mk.injEq] at hf
    obtain ⟨rfl, rfl⟩ := hf
    clear c1
    go_enter Try.func88, Try.ntmps88
    go_wp2_with (go_at_call 110; refine HF.out.mono ?_)
    rintro e1 w1 ⟨rfl, v, hS⟩
    obtain ⟨A1, n1, rfl⟩ := Kd.N_slice hS.row
    have HS := Aside0.mk hS
    have hc0 : w1.cell? ⟨g, 0, none⟩ = some (.slice A1 o.length n1) := (blk_cell HS.out.blk 0).trans rfl
    have hglt := blk_lt hS.blk
    clear hS HF
    go_wp2_with (go_at_call 93; (with_reducible refine (delta_Check.calls k _ _ o e _ (Kd.N_reads' HS.out.row).2.2 (Kd.N_reads' HS.out.row).2.1 HE.out).mono ?_); rintro e1 w2 ⟨rfl, hb⟩; have HB2 := Aside0.mk hb; clear hb; replace hc0 := (HB2.out.cell hglt).trans hc0)
    first | go_ret | go_ret2
    exact ⟨_, rfl, (HS.out.below HB2.out).weak.row, below_step HS.out.bel HB2.out, _, (HS.out.below HB2.out).mv, .inr rfl⟩
end Go.Proofs.Ytdgemabmmomebaa.PDelta
end
section
namespace Go.Proofs.Ytdgemabmmomebaa.PDelta
open Go.RowKit Go.Proofs.YtdgemabmmomebaaW.PrintWords Go.Proofs.YtdgemabmmomebaaW.PrintLast Go.Proofs.YtdgemabmmomebaaW.PrintMore
set_option linter.unusedVariables false
set_option linter.unusedSimpArgs false
theorem drop_T70 (l : List S70) (i : Nat) (h : i < l.length) : l.drop i = rd_T70 l (i : Int) :: l.drop (i + 1) := by
  rw [List.drop_eq_getElem_cons h]
  simp [rd_T70, List.getD_eq_getElem?_getD, List.getElem?_eq_getElem h]
theorem WrS.fwd {ok : Nat → Prop} {w0 wI w w1 : World} {g : Nat} {vI uI v u : Value} {s : WD} (h : WrS ok w0 wI g vI uI s v u w) (hb : Below w.heap.size w w1) : WrS ok w0 w1 g v u s v u w1 := WrD.here (WrD.below h hb)
end Go.Proofs.Ytdgemabmmomebaa.PDelta
end
section
namespace Go.Proofs.Ytdgemabmmomebaa.PDelta
open Go.RowKit Go.Proofs.YtdgemabmmomebaaW.PrintWords Go.Proofs.YtdgemabmmomebaaW.PrintLast Go.Proofs.YtdgemabmmomebaaW.PrintMore
set_option linter.unusedVariables false
set_option linter.unusedSimpArgs false
def undoIn (k : Nat) (t : List S38) : List S84 → WD → Option WD
  | [], s => some s
  | x :: r, s => (attr_Raw.f x.f2 t).bind fun p => (attr_Change.f p x.f2).bind fun c => (keepF k s 1 c).bind (undoIn k t r)
def undoL (k : Nat) : List S70 → List S84 → WD → Option (List S70 × Int)
  | [], _, s => doneD k s
  | x :: r, f, s => if x.f0 = 0 then (if 0 ≤ x.f1 ∧ x.f1 ≤ (f.length : Int) then (undoIn k x.f2 (f.take x.f1.toNat) s).bind (undoL k r (f.drop x.f1.toNat)) else none)
    else if x.f0 = 1 then undoL k r f ⟨s.out, s.add, wrap64 (s.cut + (x.f3.length : Int))⟩
    else (if 0 ≤ x.f1 ∧ x.f1 ≤ (f.length : Int) then (elemsF k s (f.take x.f1.toNat)).bind (undoL k r (f.drop x.f1.toNat)) else none)
def undoF (k : Nat) (f : List S84) (d : List S70) : Option (List S70 × Int) :=
  if 1099511627776 < d.length ∨ 1099511627776 < f.length then none else (delta_fits.f k f d).bind fun e => if e ≠ 0 then some ([], e) else undoL k d f ⟨[], [], 0⟩
theorem drop_T84 (l : List S84) (i : Nat) (h : i < l.length) : l.drop i = rd_T84 l (i : Int) :: l.drop (i + 1) := by
  rw [List.drop_eq_getElem_cons h]
  simp [rd_T84, List.getD_eq_getElem?_getD, List.getElem?_eq_getElem h]
theorem off_keep {wI w : World} {g : Nat} {vI uI v u : Value} {k : Nat} (m : Moves2 wI w g vI uI v u) (h : Off g vI uI k) (hk : k < wI.heap.size) : Off g v u k ∧ w.heap[k]? = wI.heap[k]? := by
  refine ⟨⟨⟨h.1.1, ?_⟩, ?_⟩, m.frame k hk h.1.1 h.1.2 h.2⟩
  · rcases m.ownv with e | ⟨b, e, hb⟩
    · rw [e]; exact h.1.2
    · rw [e]; intro h'; injection h' with h'; omega
  · rcases m.ownu with e | e | ⟨b, e, hb⟩
    · rw [e]; exact h.2
    · rw [e]; simp
    · rw [e]; intro h'; injection h' with h'; omega
theorem off_new {ok : Nat → Prop} {w0 wI W w : World} {g : Nat} {vI uI v u : Value} {s : WD} {A : Option Addr} {n c : Nat} {xs : List S38} {okr : Nat → Prop} (hs : WrS ok w0 wI g vI uI s v u W) (h : Kd.R k38 38 w W.heap.size okr (.slice A n c) xs) : Kd.F k38 w (Off g v u) A n xs := by
  refine Kd.F_mono (Kd.R_F (Kd.R_bound h)) (fun k hk => ?_)
  have h1 := hk.2.1
  refine ⟨⟨fun e => ?_, fun e => ?_⟩, fun e => ?_⟩
  · have := blk_lt hs.blk; omega
  · have := Kd.N_lt hs.row k e.symm; omega
  · have := Kd.N_lt hs.radd k e.symm; omega
structure USt (w0 : World) (gw : Nat) (s : WD) (gb : Nat) (x : S70) (A2 : Option Addr) (c2 : Nat) (A3 : Option Addr) (c3 : Nat) (wr : World) : Prop where
  ws : ∃ v u, WrS (fun _ => True) w0 wr gw v u s v u wr ∧ Off gw v u gb
  bk : wr.heap[gb]? = some (.cells #[.int .i64 x.f0, .int .i64 x.f1, .slice A2 x.f2.length c2, .slice A3 x.f3.length c3] 70 (0, 0))
structure USy (w0 : World) (gw : Nat) (s : WD) (gb : Nat) (x : S70) (A2 : Option Addr) (c2 : Nat) (A3 : Option Addr) (c3 : Nat) (gx : Nat) (y : S84) (B2 : Option Addr) (m2 : Nat) (wr : World) : Prop where
  st : USt w0 gw s gb x A2 c2 A3 c3 wr
  bx : wr.heap[gx]? = some (.cells #[.int .i64 y.f0, .int .i64 y.f1, .slice B2 y.f2.length m2] 84 (0, 0))
section
variable {w0 : World} {gw : Nat} {s s' : WD} {gb : Nat} {x : S70} {A2 : Option Addr} {c2 : Nat} {A3 : Option Addr} {c3 : Nat} {wr w1 : World} {gx : Nat} {y : S84} {B2 : Option Addr} {m2 : Nat}
theorem USt.below (h : USt w0 gw s gb x A2 c2 A3 c3 wr) (hb : Below wr.heap.size wr w1) : USt w0 gw s gb x A2 c2 A3 c3 w1 := by
  obtain ⟨v, u, hw, ho⟩ := h.ws
  exact ⟨⟨v, u, hw.fwd hb, ho⟩, (hb.block _ (blk_lt h.bk)).trans h.bk⟩
theorem USt.bel (h : USt w0 gw s gb x A2 c2 A3 c3 wr) : Below w0.heap.size w0 wr := by
  obtain ⟨v, u, hw, ho⟩ := h.ws
  exact hw.bel
theorem USt.move {v u v1 u1 : Value} (h : USt w0 gw s gb x A2 c2 A3 c3 wr) (ho : Off gw v u gb) (hw : WrS (fun _ => True) w0 wr gw v u s' v1 u1 w1) : USt w0 gw s' gb x A2 c2 A3 c3 w1 := by
  obtain ⟨h1, h2⟩ := off_keep hw.mv ho (blk_lt h.bk)
  exact ⟨⟨v1, u1, WrD.here hw, h1⟩, h2.trans h.bk⟩
theorem USy.below (h : USy w0 gw s gb x A2 c2 A3 c3 gx y B2 m2 wr) (hb : Below wr.heap.size wr w1) : USy w0 gw s gb x A2 c2 A3 c3 gx y B2 m2 w1 := ⟨h.st.below hb, (hb.block _ (blk_lt h.bx)).trans h.bx⟩
end
set_option maxRecDepth 100000 in
set_option maxHeartbeats 4000000 in
theorem undo_calls (k : Nat) (A0 : Option Addr) (c0 : Nat) (f0 : List S84) (A1 : Option Addr) (c1 : Nat) (l0 : List S70) (r1 : List S70) (r2 : Int) (w : World) (hf0 : Kd.C k84 w A0 f0.length f0) (hfc : f0.length ≤ c0) (hr0 : Kd.C k70 w A1 l0.length l0) (hc0 : l0.length ≤ c1) (h : undoF k f0 l0 = some (r1, r2)) :
    Calls Try.prog 49 #[.slice A0 f0.length c0, .slice A1 l0.length c1] w fun e w' => ∃ v0_ : Value, e = .returned (.tuple #[v0_, .int .i64 r2]) ∧ Kd.N k70 70 w' w.heap.size (fun _ => True) v0_ r1 ∧ Below w.heap.size w w' := by
  have hu70 := Try.underlying70
  have hu84 := Try.underlying84
  have hu127 := Try.underlying127
  have HF0 := Aside0.mk hf0
  have HFC := Aside0.mk hfc
  have HR0 := Aside0.mk hr0
  have HC0 := Aside0.mk hc0
  clear hr0 hc0 hf0 hfc
  rw [undoF] at h
  by_cases d0 : 1099511627776 < l0.length ∨ 1099511627776 < f0.length
  · rw [if_pos d0] at h
    cases h
  rw [if_neg d0] at h
  have HLEN := Aside0.mk d0
  clear d0
  obtain ⟨e, he, h⟩ := Option.bind_eq_some_iff.1 h
  have HE := Aside0.mk he
  clear he
  by_cases d1 : e ≠ 0
  · rw [if_pos d1] at h
    have d1b : (e != 0) = true := bne_iff_ne.mpr d1
    simp only [Option.some.injEq, Prod.mk.injEq] at h
    obtain ⟨rfl, rfl⟩ := h
    clear d1
    go_enter Try.func49, Try.ntmps49
    go_wp2_with (go_at_call 90; (with_reducible refine (delta_fits.calls k _ _ f0 _ _ l0 e _ HF0.out HFC.out HR0.out HC0.out HE.out).mono ?_); rintro e1 w1 ⟨rfl, hb⟩; have HB1 := Aside0.mk hb; clear hb)
    first | go_ret | go_ret2
    exact ⟨_, rfl, Kd.N_nil _ _ _ _ _, HB1.out⟩
  rw [if_neg d1] at h
  have d1b : (e != 0) = false := by simpa using d1
  have HZ := Aside0.mk (show undoL k (l0.drop 0) f0 ⟨[], [], 0⟩ = some (r1, r2) from h)
  clear d1 h
  go_enter Try.func49, Try.ntmps49
  go_wp2_with (go_at_call 90; (with_reducible refine (delta_fits.calls k _ _ f0 _ _ l0 e _ HF0.out HFC.out HR0.out HC0.out HE.out).mono ?_); rintro e1 w4 ⟨rfl, hb⟩; have HB4 := Aside0.mk hb; clear hb)
  have HJ0 : Aside0 (∃ v u, WrS (fun _ => True) w (w4.alloc (Obj.cells #[Value.slice none 0 0, Value.slice none 0 0, Value.int IntKind.i64 0] 127 (0, 0))) w4.heap.size v u ⟨[], [], 0⟩ v u (w4.alloc (Obj.cells #[Value.slice none 0 0, Value.slice none 0 0, Value.int IntKind.i64 0] 127 (0, 0)))) :=
    ⟨.slice none 0 0, .slice none 0 0, HB4.out.size, blk_new w4 _, Kd.N_nil _ _ _ _ _, Kd.N_nil _ _ _ _ _, below_alloc HB4.out _, Moves2.refl _ _ _ _⟩
  obtain ⟨gw, hgw⟩ : ∃ g, g = w4.heap.size := ⟨_, rfl⟩
  rw [← hgw] at HJ0
  rw [← hgw]
  clear hgw
  go_loopg [0, 20] l0.length (fun m v0 v20 wr => ∃ (i : Nat) (f : List S84) (s : WD) (A : Option Addr) (c : Nat), v0 = .slice A f.length c ∧ v20 = .int .i64 (i : Int) ∧ Aside0 (m + i = l0.length) ∧ Aside0 (Kd.C k84 w A f.length f ∧ f.length ≤ c ∧ f.length ≤ f0.length) ∧ Aside0 (∃ v u, WrS (fun _ => True) w wr gw v u s v u wr) ∧ Aside0 (undoL k (l0.drop i) f s = some (r1, r2)))
  case atStart => exact ⟨0, f0, ⟨[], [], 0⟩, A0, c0, rfl, rfl, ⟨rfl⟩, ⟨HF0.out, HFC.out, Nat.le_refl _⟩, HJ0, HZ⟩
  case round =>
    clear HJ0 HZ HF0 HFC
    obtain ⟨i, f, s, Af, cf, rfl, rfl, HI, HFL, HW, HL⟩ := hrel
    by_cases d2 : i < l0.length
    rotate_left
    · have g1 : decide ((i : Int) < (l0.length : Int)) = false := decide_eq_false (by omega)
      have g1' : decide (i < l0.length) = false := decide_eq_false d2
      have hL := HL.out
      rw [List.drop_eq_nil_of_le (by omega), undoL] at hL
      have HD := Aside0.mk hL
      clear d2 HL hL
      go_wp2_with (go_at_call 88; (obtain ⟨v, u, hv⟩ := HW.out); (with_reducible refine (doneD_calls _ w gw s r1 r2 v u _ k hv (fun _ _ => trivial) HD.out).mono ?_); rintro e1 w6 ⟨v6, rfl, hR, hB, hM⟩; obtain ⟨A9, n9, hv9⟩ := Kd.N_slice hR; subst hv9; have HR9 := Aside0.mk hR; have HB9 := Aside0.mk hB; clear hR hB hM hv)
      first | go_ret | go_ret2
      exact ⟨_, rfl, Kd.N_mono HR9.out (fun _ _ => trivial), HB9.out⟩
    obtain ⟨gl, rfl⟩ : ∃ gl, gk = gl + 1 := ⟨gk - 1, by have := HI.out; omega⟩
    have hL := HL.out
    rw [drop_T70 l0 i d2, undoL] at hL
    have HWB : Aside0 (Below w.heap.size w wr) := by
      obtain ⟨v, u, hv⟩ := HW.out
      exact ⟨hv.bel⟩
    have g1 : decide ((i : Int) < (l0.length : Int)) = true := decide_eq_true (by omega)
    have g1' : decide (i < l0.length) = true := decide_eq_true d2
    have q1 : (i : Int) < (l0.length : Int) := by omega
    obtain ⟨ad0, A2, c2, A3, c3, e0, hx0, hx1, hx2, hx3, hl2, hg2, hl3, hg3⟩ := at_T70 HR0.out (i : Int) (by omega) q1
    cases e0
    replace hx0 := (HWB.out.cell (World.block_lt_of_cell? w _ hx0)).trans hx0
    replace hx1 := (HWB.out.cell (World.block_lt_of_cell? w _ hx1)).trans hx1
    replace hx2 := (HWB.out.cell (World.block_lt_of_cell? w _ hx2)).trans hx2
    replace hx3 := (HWB.out.cell (World.block_lt_of_cell? w _ hx3)).trans hx3
    simp only [Int.toNat_natCast] at hx0 hx1 hx2 hx3
    have wk : wrap64 ((i : Int) + 1) = (i : Int) + 1 := by have := HLEN.out; unfold wrap64; omega
    obtain ⟨x, hx⟩ : ∃ x, x = rd_T70 l0 (i : Int) := ⟨_, rfl⟩
    rw [← hx] at hx0 hx1 hx2 hx3 hl2 hg2 hl3 hg3 hL
    clear hx d2 HL
    have HIG := Aside0.mk (show gl + (i + 1) = l0.length by have := HI.out; omega)
    have HL2 := Aside0.mk hl2
    have HL3 := Aside0.mk hl3
    have HG2 := Aside0.mk hg2
    have HG3 := Aside0.mk hg3
    have HL := Aside0.mk hL
    clear hl2 hl3 hg2 hg3 hL
    have HT0 : Aside0 (USt w gw s wr.heap.size x A2 c2 A3 c3 (wr.alloc (Obj.cells #[.int .i64 x.f0, .int .i64 x.f1, .slice A2 x.f2.length c2, .slice A3 x.f3.length c3] 70 (0, 0)))) := by
      obtain ⟨v, u, hv⟩ := HW.out
      refine ⟨⟨v, u, hv.fwd (below_alloc (Below.refl _ _) _), ⟨⟨fun e => ?_, fun e => ?_⟩, fun e => ?_⟩⟩, blk_new wr _⟩
      · have := blk_lt hv.blk; omega
      · have := Kd.N_lt hv.row _ e.symm; omega
      · have := Kd.N_lt hv.radd _ e.symm; omega
    clear HW HWB
    go_upto_region 8 with (fail)
    obtain ⟨gb, hgb⟩ : ∃ g, g = wr.heap.size := ⟨_, rfl⟩
    obtain ⟨w2, hw2⟩ : ∃ w', w' = wr.alloc (Obj.cells #[.int .i64 x.f0, .int .i64 x.f1, .slice A2 x.f2.length c2, .slice A3 x.f3.length c3] 70 (0, 0)) := ⟨_, rfl⟩
    rw [← hgb, ← hw2] at HT0
    rw [← hgb, ← hw2]
    clear hgb hw2 hx0 hx1 hx2 hx3
    have q0 : w2.cell? ⟨gb, 0, none⟩ = some (.int .i64 x.f0) := (blk_cell HT0.out.bk 0).trans rfl
    by_cases d4 : x.f0 = 0
    · have d4b : (x.f0 == 0) = true := beq_iff_eq.mpr d4
      have hL := HL.out
      rw [if_pos d4] at hL
      by_cases d5 : 0 ≤ x.f1 ∧ x.f1 ≤ (f.length : Int)
      rotate_left
      · rw [if_neg d5] at hL
        cases hL
      rw [if_pos d5] at hL
      obtain ⟨j, hj⟩ : ∃ j : Nat, x.f1 = (j : Int) := ⟨x.f1.toNat, by omega⟩
      rw [hj, Int.toNat_natCast] at hL
      have hjl : j ≤ f.length := by omega
      obtain ⟨s', hs', hL⟩ := Option.bind_eq_some_iff.1 hL
      have HL' := Aside0.mk hL
      have q1 : w2.cell? ⟨gb, 1, none⟩ = some (.int .i64 (j : Int)) := by rw [← hj]; exact (blk_cell HT0.out.bk 1).trans rfl
      have HJ := Aside0.mk hj
      have HJL := Aside0.mk hjl
      have HIN := Aside0.mk (show undoIn k x.f2 ((f.take j).drop 0) s = some s' from hs')
      obtain ⟨iz, hiz, _, hsz, _⟩ := info_parts info84
      have hct : ∀ W : World, (Instr.slice 63 (.slice Af f.length cf) none (some (.int .i64 (j : Int))) none).run Try.prog W = .ok (.slice Af j cf) W := by
        have := cut_to (P := Try.prog) 63 84 .i64 Try.underlying63 hiz Af f.length cf (j : Int) (by omega) (by omega) HFL.out.2.1
        rwa [Int.toNat_natCast] at this
      have HCF := Aside0.mk (show ∀ W : World, (Instr.slice 63 (.slice Af f.length cf) (some (.int .i64 (j : Int))) none none).run Try.prog W = .ok (.slice (if cf = j then Af else Af.map (·.add (j * 3))) (f.length - j) (cf - j)) W from by
        have := cut_from (P := Try.prog) 63 84 .i64 Try.underlying63 hiz 3 hsz Af f.length cf (j : Int) (by omega) (by omega)
        rwa [Int.toNat_natCast] at this)
      have p5 : ((0 : Int) ≤ (j : Int)) = True := eq_true (by omega)
      have p6 : ((j : Int) ≤ (f.length : Int)) = True := eq_true (by omega)
      have p7 : (j ≤ f.length) = True := eq_true hjl
      clear hiz hsz hL hs' d4 d5 hj hjl HL
      go_wp2
      clear hct p5 p6 p7 q0 q1
      go_loopg [42] j (fun m v42 wx => ∃ (i2 : Nat) (s2 : WD), v42 = .int .i64 (i2 : Int) ∧ Aside0 (m + i2 = j) ∧ Aside0 (USt w gw s2 gb x A2 c2 A3 c3 wx) ∧ Aside0 (undoIn k x.f2 ((f.take j).drop i2) s2 = some s'))
      case atStart => exact ⟨0, s, rfl, ⟨rfl⟩, HT0, HIN⟩
      case round =>
        clear HT0 HIN
        obtain ⟨i2, s2, rfl, HI2, HT, HL2'⟩ := hrel
        have hft : (f.take j).length = j := by rw [List.length_take]; have := HJL.out; omega
        by_cases e2 : i2 < j
        rotate_left
        · have hL := HL2'.out
          rw [List.drop_eq_nil_of_le (by omega), undoIn] at hL
          injection hL with hL
          subst hL
          have k1 : decide ((i2 : Int) < (j : Int)) = false := decide_eq_false (by omega)
          have k1' : decide (i2 < j) = false := decide_eq_false e2
          have k2 : wr.cell? ⟨gb, 1, none⟩ = some (.int .i64 (j : Int)) := by rw [← HJ.out]; exact (blk_cell HT.out.bk 1).trans rfl
          have p5 : ((0 : Int) ≤ (j : Int)) = True := eq_true (by omega)
          have p6 : ((j : Int) ≤ (f.length : Int)) = True := eq_true (by have := HJL.out; omega)
          have p7 : (j ≤ f.length) = True := eq_true HJL.out
          obtain ⟨A5, hA5⟩ : ∃ A5, A5 = (if cf = j then Af else Af.map (·.add (j * 3))) := ⟨_, rfl⟩
          obtain ⟨fr, hfr⟩ : ∃ fr, fr = f.drop j := ⟨_, rfl⟩
          have hfl : f.length - j = fr.length := by rw [hfr, List.length_drop]
          have hcf := HCF.out
          rw [← hA5, hfl] at hcf
          have HFL' : Aside0 (Kd.C k84 w A5 fr.length fr ∧ fr.length ≤ cf - j ∧ fr.length ≤ f0.length) := ⟨by
            rw [hA5, hfr]
            refine ⟨Kd.C_drop HFL.out.1 HJL.out HFL.out.2.1, ?_, ?_⟩
            · rw [List.length_drop]; have := HFL.out.2.1; omega
            · rw [List.length_drop]; have := HFL.out.2.2; omega⟩
          have HL9 := HL'
          rw [← hfr] at HL9
          clear hA5 hfr hfl hL HL2' e2 HCF
          go_wp2
          go_roundg gl
          case measure => omega
          case rel =>
            refine ⟨i + 1, fr, s2, A5, cf - j, rfl, by simp [wk], HIG, HFL', ?_, HL9⟩
            obtain ⟨v, u, hv, _⟩ := HT.out.ws
            exact ⟨v, u, hv⟩
        · obtain ⟨g2, rfl⟩ : ∃ g2, gk = g2 + 1 := ⟨gk - 1, by have := HI2.out; omega⟩
          have hL := HL2'.out
          rw [drop_T84 (f.take j) i2 (by omega), undoIn] at hL
          have k1 : decide ((i2 : Int) < (j : Int)) = true := decide_eq_true (by omega)
          have k1' : decide (i2 < j) = true := decide_eq_true e2
          have k3 : (i2 : Int) < (j : Int) := by omega
          have hCt : Kd.C k84 w Af j (f.take j) := by
            have := Kd.C_take HFL.out.1 HJL.out
            rwa [hft] at this
          obtain ⟨ad1, B2, m2, e1, hy0, hy1, hy2, hm2, hC2⟩ := at_T84 hCt (i2 : Int) (by omega) k3
          subst e1
          replace hy0 := (HT.out.bel.cell (World.block_lt_of_cell? w _ hy0)).trans hy0
          replace hy1 := (HT.out.bel.cell (World.block_lt_of_cell? w _ hy1)).trans hy1
          replace hy2 := (HT.out.bel.cell (World.block_lt_of_cell? w _ hy2)).trans hy2
          simp only [Int.toNat_natCast] at hy0 hy1 hy2
          obtain ⟨y, hy⟩ : ∃ y, y = rd_T84 (f.take j) (i2 : Int) := ⟨_, rfl⟩
          rw [← hy] at hy0 hy1 hy2 hm2 hC2 hL
          obtain ⟨p, hp, hL⟩ := Option.bind_eq_some_iff.1 hL
          obtain ⟨cz, hcz, hL⟩ := Option.bind_eq_some_iff.1 hL
          obtain ⟨s3, hs3, hL⟩ := Option.bind_eq_some_iff.1 hL
          have HP := Aside0.mk hp
          have HCZ := Aside0.mk hcz
          have HS3 := Aside0.mk hs3
          have HLN2 := Aside0.mk hL
          have HM2 := Aside0.mk hm2
          have HC2 := Aside0.mk hC2
          have HI3 := Aside0.mk (show g2 + (i2 + 1) = j by have := HI2.out; omega)
          have wk2 : wrap64 ((i2 : Int) + 1) = (i2 : Int) + 1 := by have := HLEN.out; have := HJL.out; have := HFL.out.2.2; unfold wrap64; omega
          have HY : Aside0 (USy w gw s2 gb x A2 c2 A3 c3 wr.heap.size y B2 m2 (wr.alloc (Obj.cells #[.int .i64 y.f0, .int .i64 y.f1, .slice B2 y.f2.length m2] 84 (0, 0))).drew) :=
            ⟨⟨(HT.out.below (below_alloc (Below.refl _ _) _)).below (below_drew1 (Below.refl _ _)), blk_drew (blk_new wr _)⟩⟩
          clear hCt hy hp hcz hs3 hL hm2 hC2 HL2' e2 HT hft
          go_upto_region 15 with (fail)
          obtain ⟨gx, hgx⟩ : ∃ g, g = wr.heap.size := ⟨_, rfl⟩
          obtain ⟨w6, hw6⟩ : ∃ w', w' = wr.alloc (Obj.cells #[.int .i64 y.f0, .int .i64 y.f1, .slice B2 y.f2.length m2] 84 (0, 0)) := ⟨_, rfl⟩
          rw [← hgx, ← hw6] at HY
          rw [← hgx, ← hw6]
          clear hgx hw6 hy0 hy1 hy2
          refine start_ (n := 9) (S := fun w' => w'.cell? ⟨gx, 2, none⟩ = some (.slice B2 y.f2.length m2) ∧ w'.cell? ⟨gb, 2, none⟩ = some (.slice A2 x.f2.length c2)) (ds := [8]) #[false, false, false, false, false, false, false, false, false] (by kernel_rfl) rfl rfl ⟨((blk_cell HY.out.bx 2).trans rfl), ((blk_cell HY.out.st.bk 2).trans rfl)⟩ (fun hHeld => ?_)
          refine pure_ (i := 0) (N := some 46) (v := ?_) (a' := ?_) #[true, false, false, false, false, false, false, false, false] rfl rfl (by kernel_rfl) (fun _ _ _ h => h) (Or.inl ⟨by rfl, ?_⟩) ?_ ?_
          rotate_left
          · intro w'
            go_simp
            with_reducible rfl
          rotate_left
          · simp only [Act.put, List.setIfInBounds_toArray, List.set_cons_zero, List.set_cons_succ, i64_w, i32_w]
            rfl
          refine pure_ (i := 2) (N := some 48) (v := ?_) (a' := ?_) #[true, false, true, false, false, false, false, false, false] rfl rfl (by kernel_rfl) (fun _ _ _ h => h) (Or.inl ⟨by rfl, ?_⟩) ?_ ?_
          rotate_left
          · intro w'
            go_simp
            with_reducible rfl
          rotate_left
          · simp only [Act.put, List.setIfInBounds_toArray, List.set_cons_zero, List.set_cons_succ, i64_w, i32_w]
            rfl
          refine pure_ (i := 5) (N := some 51) (v := ?_) (a' := ?_) #[true, false, true, false, false, true, false, false, false] rfl rfl (by kernel_rfl) (fun _ _ _ h => h) (Or.inl ⟨by rfl, ?_⟩) ?_ ?_
          rotate_left
          · intro w'
            go_simp
            with_reducible rfl
          rotate_left
          · simp only [Act.put, List.setIfInBounds_toArray, List.set_cons_zero, List.set_cons_succ, i64_w, i32_w]
            rfl
          refine take_ (i := 1) (N := some 47) (v := ?_) (a' := ?_) #[true, true, true, false, false, true, false, false, false] rfl rfl (by kernel_rfl) (fun _ _ _ h => h) (Or.inl ⟨by rfl, ?_⟩) hHeld ?_ ?_
          rotate_left
          · rintro w' ⟨s0, s1⟩
            go_simp
            with_reducible rfl
          rotate_left
          · simp only [Act.put, List.setIfInBounds_toArray, List.set_cons_zero, List.set_cons_succ, i64_w, i32_w]
            rfl
          refine take_ (i := 3) (N := some 49) (v := ?_) (a' := ?_) #[true, true, true, true, false, true, false, false, false] rfl rfl (by kernel_rfl) (fun _ _ _ h => h) (Or.inl ⟨by rfl, ?_⟩) hHeld ?_ ?_
          rotate_left
          · rintro w' ⟨s0, s1⟩
            go_simp
            with_reducible rfl
          rotate_left
          · simp only [Act.put, List.setIfInBounds_toArray, List.set_cons_zero, List.set_cons_succ, i64_w, i32_w]
            rfl
          refine take_ (i := 6) (N := some 52) (v := ?_) (a' := ?_) #[true, true, true, true, false, true, true, false, false] rfl rfl (by kernel_rfl) (fun _ _ _ h => h) (Or.inl ⟨by rfl, ?_⟩) hHeld ?_ ?_
          rotate_left
          · rintro w' ⟨s0, s1⟩
            go_simp
            with_reducible rfl
          rotate_left
          · simp only [Act.put, List.setIfInBounds_toArray, List.set_cons_zero, List.set_cons_succ, i64_w, i32_w]
            rfl
          refine one_ (i := 4) (N := some 50) #[true, true, true, true, true, true, true, false, false] rfl rfl (by kernel_rfl) (by decide) (fun K hK => ?_)
          refine goes_ Try.func66 (by kernel_rfl) rfl #[.slice B2 y.f2.length m2, .slice A2 x.f2.length c2] (by rfl) rfl rfl (by simp only [List.map_toArray, List.map_cons, List.map_nil]; rfl) ?_
          with_reducible refine (attr_Raw.calls B2 m2 y.f2 A2 c2 x.f2 p _ (Kd.C_below HC2.out HY.out.st.bel) HM2.out (Kd.C_below HG2.out HY.out.st.bel) HL2.out HP.out).mono ?_
          rintro e w7 ⟨v7, rfl, hR7, hb7⟩
          refine ⟨_, rfl, ?_⟩
          obtain ⟨A7, n7, rfl⟩ := Kd.R_slice hR7
          have HR7 := Aside0.mk hR7
          have HY7 := Aside0.mk (HY.out.below hb7)
          clear hR7 hb7
          refine hK.out _ _ ⟨((blk_cell HY7.out.bx 2).trans rfl), ((blk_cell HY7.out.st.bk 2).trans rfl)⟩ (fun hHeld => ?_)
          clear hK K
          refine norm_ (a' := ?_) ?_ ?_
          rotate_left
          · show Act.put _ (some 50) _ = _
            simp only [Act.put, List.setIfInBounds_toArray, List.set_cons_zero, List.set_cons_succ, i64_w, i32_w]
            rfl
          refine one_ (i := 7) (N := some 53) #[true, true, true, true, true, true, true, true, false] rfl rfl (by kernel_rfl) (by decide) (fun K hK => ?_)
          refine goes_ Try.func67 (by kernel_rfl) rfl #[.slice A7 p.length n7, .slice B2 y.f2.length m2] (by rfl) rfl rfl (by simp only [List.map_toArray, List.map_cons, List.map_nil]; rfl) ?_
          with_reducible refine (attr_Change.calls A7 n7 p B2 m2 y.f2 cz _ (Kd.R_reads' HR7.out).2.2 (Kd.R_reads' HR7.out).2.1 (Kd.C_below HC2.out HY7.out.st.bel) HM2.out HCZ.out).mono ?_
          rintro e w8 ⟨v8, rfl, hR8, hb8⟩
          refine ⟨_, rfl, ?_⟩
          obtain ⟨A8, n8, rfl⟩ := Kd.R_slice hR8
          have HR8 := Aside0.mk hR8
          have HY8 := Aside0.mk (HY7.out.below hb8)
          have HB8 := Aside0.mk hb8
          clear hR8 hb8
          refine hK.out _ _ ⟨((blk_cell HY8.out.bx 2).trans rfl), ((blk_cell HY8.out.st.bk 2).trans rfl)⟩ (fun hHeld => ?_)
          clear hK K
          refine norm_ (a' := ?_) ?_ ?_
          rotate_left
          · show Act.put _ (some 53) _ = _
            simp only [Act.put, List.setIfInBounds_toArray, List.set_cons_zero, List.set_cons_succ, i64_w, i32_w]
            rfl
          refine last_ (i := 8) (N := some 54) #[true, true, true, true, true, true, true, true, true] rfl rfl (by kernel_rfl) (by decide) (fun K hK => ?_)
          obtain ⟨v, u, hv, ho⟩ := HY7.out.st.ws
          have HV := Aside0.mk hv
          have HO := Aside0.mk ho
          clear hv ho
          refine goes_ Try.func86 (by kernel_rfl) rfl #[.pointer (some ⟨gw, 0, none⟩), .int .i64 1, .slice A8 cz.length n8] (by rfl) rfl rfl (by simp only [List.map_toArray, List.map_cons, List.map_nil]; rfl) ?_
          with_reducible refine (keepF_calls _ w gw s2 s3 1 v u _ k A8 n8 cz (HV.out.fwd HB8.out) (fun _ _ => trivial) (off_new HV.out HR8.out) (Kd.R_reads' HR8.out).2.1 HS3.out).mono ?_
          rintro e w9 ⟨rfl, v9, u9, hW9⟩
          refine ⟨_, rfl, ?_⟩
          have HT9 := Aside0.mk (HY8.out.st.move HO.out hW9)
          clear hW9
          refine hK.out _ _ ?_
          clear hK K
          refine norm_ (a' := ?_) ?_ ?_
          rotate_left
          · show Act.put _ (some 54) _ = _
            simp only [Act.put, List.setIfInBounds_toArray, List.set_cons_zero, List.set_cons_succ, i64_w, i32_w]
            rfl
          refine done_ (by kernel_rfl) ?_
          go_wp2
          go_roundg g2
          case measure => omega
          case rel => exact ⟨i2 + 1, s3, by simp [wk2], HI3, HT9, HLN2⟩
    · have d4b : (x.f0 == 0) = false := beq_eq_false_iff_ne.mpr d4
      have hL := HL.out
      rw [if_neg d4] at hL
      clear d4 HL
      by_cases d5 : x.f0 = 1
      · rw [if_pos d5] at hL
        have d5b : (x.f0 == 1) = true := beq_iff_eq.mpr d5
        have HL := Aside0.mk hL
        have q3 : w2.cell? ⟨gb, 3, none⟩ = some (.slice A3 x.f3.length c3) := (blk_cell HT0.out.bk 3).trans rfl
        have HWP : Aside0 (∃ v u, WrS (fun _ => True) w (w2.setCell ⟨gw, 2, none⟩ (.int .i64 (wrap64 (s.cut + (x.f3.length : Int))))) gw v u ⟨s.out, s.add, wrap64 (s.cut + (x.f3.length : Int))⟩ v u (w2.setCell ⟨gw, 2, none⟩ (.int .i64 (wrap64 (s.cut + (x.f3.length : Int)))))) := by
          obtain ⟨v, u, hv, _⟩ := HT0.out.ws
          exact ⟨v, u, WrD.here (WrD.put2 hv _)⟩
        have hcut2 : w2.cell? ⟨gw, 2, none⟩ = some (.int .i64 s.cut) := by
          obtain ⟨v, u, hv, _⟩ := HT0.out.ws
          exact (blk_cell hv.blk 2).trans rfl
        have hfz2 : w2.frozen? ⟨gw, 2, none⟩ = false := by
          obtain ⟨v, u, hv, _⟩ := HT0.out.ws
          exact blk_frozen hv.blk 2
        clear d5 hL
        go_wp2
        go_roundg gl
        case measure => omega
        case rel => exact ⟨i + 1, f, ⟨s.out, s.add, wrap64 (s.cut + (x.f3.length : Int))⟩, Af, cf, rfl, by simp [wk], HIG, HFL, HWP, HL⟩
      · rw [if_neg d5] at hL
        have d5b : (x.f0 == 1) = false := beq_eq_false_iff_ne.mpr d5
        by_cases d6 : 0 ≤ x.f1 ∧ x.f1 ≤ (f.length : Int)
        rotate_left
        · rw [if_neg d6] at hL
          cases hL
        rw [if_pos d6] at hL
        obtain ⟨j, hj⟩ : ∃ j : Nat, x.f1 = (j : Int) := ⟨x.f1.toNat, by omega⟩
        rw [hj, Int.toNat_natCast] at hL
        have hjl : j ≤ f.length := by omega
        obtain ⟨s', hs', hL⟩ := Option.bind_eq_some_iff.1 hL
        have HJ := Aside0.mk hj
        have HJL := Aside0.mk hjl
        have HS' := Aside0.mk hs'
        have q1 : w2.cell? ⟨gb, 1, none⟩ = some (.int .i64 (j : Int)) := by rw [← hj]; exact (blk_cell HT0.out.bk 1).trans rfl
        obtain ⟨iz, hiz, _, hsz, _⟩ := info_parts info84
        obtain ⟨ft, hft⟩ : ∃ ft, ft = f.take j := ⟨_, rfl⟩
        have hftl : ft.length = j := by rw [hft, List.length_take]; omega
        have HCT := Aside0.mk (show Kd.C k84 w Af ft.length ft ∧ ft.length ≤ cf from by rw [hft]; exact ⟨Kd.C_take HFL.out.1 hjl, by rw [List.length_take]; have := HFL.out.2.1; omega⟩)
        rw [← hft] at HS'
        have hct : ∀ W : World, (Instr.slice 63 (.slice Af f.length cf) none (some (.int .i64 (j : Int))) none).run Try.prog W = .ok (.slice Af ft.length cf) W := by
          have := cut_to (P := Try.prog) 63 84 .i64 Try.underlying63 hiz Af f.length cf (j : Int) (by omega) (by omega) HFL.out.2.1
          rw [Int.toNat_natCast] at this
          rw [hftl]
          exact this
        obtain ⟨A5, hA5⟩ : ∃ A5, A5 = (if cf = j then Af else Af.map (·.add (j * 3))) := ⟨_, rfl⟩
        obtain ⟨fr, hfr⟩ : ∃ fr, fr = f.drop j := ⟨_, rfl⟩
        have hfl : f.length - j = fr.length := by rw [hfr, List.length_drop]
        have hcf : ∀ W : World, (Instr.slice 63 (.slice Af f.length cf) (some (.int .i64 (j : Int))) none none).run Try.prog W = .ok (.slice A5 fr.length (cf - j)) W := by
          have := cut_from (P := Try.prog) 63 84 .i64 Try.underlying63 hiz 3 hsz Af f.length cf (j : Int) (by omega) (by omega)
          rw [Int.toNat_natCast] at this
          rw [hA5, ← hfl]
          exact this
        have HFL' : Aside0 (Kd.C k84 w A5 fr.length fr ∧ fr.length ≤ cf - j ∧ fr.length ≤ f0.length) := ⟨by
          rw [hA5, hfr]
          refine ⟨Kd.C_drop HFL.out.1 HJL.out HFL.out.2.1, ?_, ?_⟩
          · rw [List.length_drop]; have := HFL.out.2.1; omega
          · rw [List.length_drop]; have := HFL.out.2.2; omega⟩
        have HL9 := Aside0.mk hL
        rw [← hfr] at HL9
        have p5 : ((0 : Int) ≤ (j : Int)) = True := eq_true (by omega)
        have p6 : ((j : Int) ≤ (f.length : Int)) = True := eq_true (by omega)
        have p7 : (j ≤ f.length) = True := eq_true hjl
        clear hiz hsz hL hs' d5 d6 hj hjl hft hftl hA5 hfr hfl
        go_wp2_with (go_at_call 87; (obtain ⟨v, u, hv, ho⟩ := HT0.out.ws); ((refine (elemsF_calls _ w gw s s' v u _ k Af cf ft hv (fun _ _ => trivial) (Kd.C_below HCT.out.1 (WrD.bel hv)) HCT.out.2 HS'.out).mono ?_)); rintro e3 w3 ⟨rfl, v3, u3, hW3⟩; have HT3 := Aside0.mk (HT0.out.move ho hW3); have q1' : w3.cell? ⟨gb, 1, none⟩ = some (.int .i64 (j : Int)) := (by rw [← HJ.out]; exact (blk_cell HT3.out.bk 1).trans rfl); clear hW3 hv ho)
        go_roundg gl
        case measure => omega
        case rel =>
          refine ⟨i + 1, fr, s', A5, cf - j, rfl, by simp [wk], HIG, HFL', ?_, HL9⟩
          obtain ⟨v, u, hv, _⟩ := HT3.out.ws
          exact ⟨v, u, hv⟩
end Go.Proofs.Ytdgemabmmomebaa.PDelta
end
section
namespace Go.Proofs.Ytdgemabmmomebaa.PDelta
open Go.RowKit Go.Proofs.YtdgemabmmomebaaW.PrintWords Go.Proofs.YtdgemabmmomebaaW.PrintLast Go.Proofs.YtdgemabmmomebaaW.PrintMore
attribute [local go_sem] max2_int min2_int max_two min_two max_three min_three max_four min_four
set_option linter.unusedVariables false
set_option linter.unusedSimpArgs false
attribute [local go_sem high] Go.Proofs.Ytdgemabmmomebaa.Ord.leq_str Go.Proofs.Ytdgemabmmomebaa.Ord.gtr_str Go.Proofs.Ytdgemabmmomebaa.Ord.geq_str
mutual
def chanceryref1_StepError.j0 : Nat → Bool → Int → Int → List (S38) → List (S84) → Option (Int)
  | 0, _, _, _, _, _ => none
  | k + 1, x18, x291000, x291001, x291002, x291003 => if x18 = true then (some 4) else (if (x291003.length : Int) = 0 then (some 11) else ((chanceryref1_PartError.f k x291003).bind fun t292 => (some t292)))
def chanceryref1_StepError.j1 : Nat → Bool → Int → Int → List (S38) → List (S84) → Option (Int)
  | 0, _, _, _, _, _ => none
  | k + 1, x40, x291000, x291001, x291002, x291003 => if x40 = true then (some 4) else ((chanceryref1_In.f x291001 1 2147483647).bind fun t293 => (if t293 = true then ((chanceryref1_AttrsError.f k x291002 true).bind fun t294 => (some t294)) else (some 2)))
end
def chanceryref1_StepError.f (k : Nat) (a0_0 : Int) (a0_1 : Int) (l0_2 : List (S38)) (l0_3 : List (S84)) : Option (Int) := (chanceryref1_In.f a0_0 0 2).bind fun t291 => (if t291 = true then (if a0_0 = 1 then (if a0_1 = 0 then (chanceryref1_StepError.j0 k (decide ((l0_2.length : Int) > 0)) a0_0 a0_1 l0_2 l0_3) else (chanceryref1_StepError.j0 k true a0_0 a0_1 l0_2 l0_3)) else (if (l0_3.length : Int) > 0 then (chanceryref1_StepError.j1 k true a0_0 a0_1 l0_2 l0_3) else (if a0_0 = 2 then (chanceryref1_StepError.j1 k (decide ((l0_2.length : Int) > 0)) a0_0 a0_1 l0_2 l0_3) else (chanceryref1_StepError.j1 k false a0_0 a0_1 l0_2 l0_3)))) else (some 8))
set_option maxHeartbeats 8000000 in
set_option maxRecDepth 100000 in
theorem chanceryref1_StepError.calls (k : Nat) (a0_0 : Int) (a0_1 : Int) (A0_2 : Option Addr) (c0_2 : Nat) (l0_2 : List (S38)) (A0_3 : Option Addr) (c0_3 : Nat) (l0_3 : List (S84)) (r : Int) (w : World) (hr0_2 : Kd.C k38 w A0_2 l0_2.length l0_2) (hc0_2 : l0_2.length ≤ c0_2) (hr0_3 : Kd.C k84 w A0_3 l0_3.length l0_3) (hc0_3 : l0_3.length ≤ c0_3) (h : chanceryref1_StepError.f k a0_0 a0_1 l0_2 l0_3 = some r) :
    Calls Try.prog 89 #[.agg #[.int .i64 a0_0, .int .i64 a0_1, .slice A0_2 l0_2.length c0_2, .slice A0_3 l0_3.length c0_3]] w fun e w' => e = .returned (.int .i64 r) ∧ Below w.heap.size w w' := by
  have hu70 := Try.underlying70
  have HR0_2 := Aside0.mk hr0_2
  have HC0_2 := Aside0.mk hc0_2
  clear hr0_2 hc0_2
  have HR0_3 := Aside0.mk hr0_3
  have HC0_3 := Aside0.mk hc0_3
  clear hr0_3 hc0_3
  have HB := Aside0.mk (Below.refl w.heap.size w)
  have H : ((chanceryref1_In.f a0_0 0 2).bind fun t291 => (if t291 = true then (if a0_0 = 1 then (if a0_1 = 0 then (chanceryref1_StepError.j0 k (decide ((l0_2.length : Int) > 0)) a0_0 a0_1 l0_2 l0_3) else (chanceryref1_StepError.j0 k true a0_0 a0_1 l0_2 l0_3)) else (if (l0_3.length : Int) > 0 then (chanceryref1_StepError.j1 k true a0_0 a0_1 l0_2 l0_3) else (if a0_0 = 2 then (chanceryref1_StepError.j1 k (decide ((l0_2.length : Int) > 0)) a0_0 a0_1 l0_2 l0_3) else (chanceryref1_StepError.j1 k false a0_0 a0_1 l0_2 l0_3)))) else (some 8))) = some r := h
  clear h
  replace H := Option.bind_eq_some_iff.mp H
  obtain ⟨t291, A20, H⟩ := H
  replace H : (if t291 = true then (if a0_0 = 1 then (if a0_1 = 0 then (chanceryref1_StepError.j0 k (decide ((l0_2.length : Int) > 0)) a0_0 a0_1 l0_2 l0_3) else (chanceryref1_StepError.j0 k true a0_0 a0_1 l0_2 l0_3)) else (if (l0_3.length : Int) > 0 then (chanceryref1_StepError.j1 k true a0_0 a0_1 l0_2 l0_3) else (if a0_0 = 2 then (chanceryref1_StepError.j1 k (decide ((l0_2.length : Int) > 0)) a0_0 a0_1 l0_2 l0_3) else (chanceryref1_StepError.j1 k false a0_0 a0_1 l0_2 l0_3)))) else (some 8)) = some r := H
  have A2 := Aside0.mk A20
  clear A20
  by_cases c3 : t291 = true
  · subst c3
    have H1 : (if a0_0 = 1 then (if a0_1 = 0 then (chanceryref1_StepError.j0 k (decide ((l0_2.length : Int) > 0)) a0_0 a0_1 l0_2 l0_3) else (chanceryref1_StepError.j0 k true a0_0 a0_1 l0_2 l0_3)) else (if (l0_3.length : Int) > 0 then (chanceryref1_StepError.j1 k true a0_0 a0_1 l0_2 l0_3) else (if a0_0 = 2 then (chanceryref1_StepError.j1 k (decide ((l0_2.length : Int) > 0)) a0_0 a0_1 l0_2 l0_3) else (chanceryref1_StepError.j1 k false a0_0 a0_1 l0_2 l0_3)))) = some r := by rw [if_pos rfl] at H; exact H
    clear H
    have H := H1
    clear H1
    by_cases c4 : a0_0 = 1
    · rw [if_pos c4] at H
      have c4b0 : (a0_0 == 1) = true := beq_iff_eq.mpr c4
      have c4b1 : (a0_0 != 1) = false := bne_eq_false_iff_eq.mpr c4
      clear c4
      have HC5 := Aside0.mk H
      clear H
      go_enter Try.func89, Try.ntmps89
      go_upto_region 4 with (first | ((with_reducible refine gate_dst (N := 1) rfl ?_); (try (refine gate_guard (by rfl) ?_; dsimp only)); refine box_event ?hg (N := 1) ?hd (cs := #[.int .i64 a0_0, .int .i64 a0_1, .slice A0_2 l0_2.length c0_2, .slice A0_3 l0_3.length c0_3]) (t := 70) ?hr ?_; (case hd => rfl); (case hg => rfl); (case hr => first | (go_simp; done) | (go_simp; rfl)); intro gb290 hg w6 hbox hb; have n0_ := Aside0.mk (below_step (by repeat (first | (with_reducible first | exact HB.out | apply below_alloc | apply pw_below_drewN | apply below_drew1) | exact HB.out)) hb); have n1_ := Aside0.mk (hbox); have n2_ := Aside0.mk ((by rw [hg]; exact (below_size (by repeat (first | (with_reducible first | exact HB.out | apply below_alloc | apply pw_below_drewN | apply below_drew1) | exact HB.out))) : w.heap.size ≤ gb290)); have n3_ := Aside0.mk ((by rw [hg]; exact (below_size (by repeat (first | (with_reducible first | exact HB.out | apply below_alloc | apply pw_below_drewN | apply below_drew1) | exact HB.out))) : w.heap.size ≤ gb290)); clear HB; have HB := n0_; have BK290 := n1_; have GW290 := n2_; have GE290 := n3_; clear n0_ n1_ n2_ n3_; clear hb hbox hg; have hcz7_0 : w6.cell? ⟨gb290, 0, none⟩ = some (.int .i64 a0_0) := (blk_cell BK290.out 0).trans rfl; have hcz7_1 : w6.cell? ⟨gb290, 1, none⟩ = some (.int .i64 a0_1) := (blk_cell BK290.out 1).trans rfl; have hcz7_2 : w6.cell? ⟨gb290, 2, none⟩ = some (.slice A0_2 l0_2.length c0_2) := (blk_cell BK290.out 2).trans rfl; have hcz7_3 : w6.cell? ⟨gb290, 3, none⟩ = some (.slice A0_3 l0_3.length c0_3) := (blk_cell BK290.out 3).trans rfl; have hfz7_0 := blk_frozen BK290.out 0; have hfz7_1 := blk_frozen BK290.out 1; have hfz7_2 := blk_frozen BK290.out 2; have hfz7_3 := blk_frozen BK290.out 3) | ((with_reducible refine gate_callee (f := 52) rfl ?_); refine goesL_ (some 5) rfl rfl Try.func52 (by kernel_rfl) rfl #[.int .i64 a0_0, .int .i64 0, .int .i64 2] rfl (by (try simp only [List.map_toArray, List.map_cons, List.map_nil]); first | done | rfl | (simp only [List.length_drop, List.length_take]; rfl)) ?_; (with_reducible refine (chanceryref1_In.calls a0_0 0 2 true _ A2.out).mono ?_); rintro e w' ⟨rfl, ⟨nd, rfl⟩⟩; refine ⟨_, rfl, ?_⟩))
      (try simp only [Act.put, List.setIfInBounds_toArray, List.set_cons_zero, List.set_cons_succ])
      go_cut [18] (fun v18 wc => ∃ (kq : Nat) (x18_4 : Bool), v18 = .bool x18_4 ∧ Aside0 (chanceryref1_StepError.j0 kq x18_4 a0_0 a0_1 l0_2 l0_3 = some r) ∧ Aside0 (kq ≤ k) ∧ Aside0 (wc.heap[gb290]? = some (.cells #[.int .i64 a0_0, .int .i64 a0_1, (.slice A0_2 l0_2.length c0_2), (.slice A0_3 l0_3.length c0_3)] 70 (0, 0))) ∧ Aside0 (Below w.heap.size w wc))
      case first =>
        have H := HC5.out
        clear HC5
        by_cases c8 : a0_1 = 0
        · rw [if_pos c8] at H
          have c8b0 : (a0_1 == 0) = true := beq_iff_eq.mpr c8
          have c8b1 : (a0_1 != 0) = false := bne_eq_false_iff_eq.mpr c8
          clear c8
          (first | rw [c8b0] | (simp only [i64_w, i32_w]; rw [c8b0]) | skip)
          have H' := Aside0.mk H
          clear H
          have hcz9_0 : w6.cell? ⟨gb290, 0, none⟩ = some (.int .i64 a0_0) := (blk_cell BK290.out 0).trans rfl
          have hcz9_1 : w6.cell? ⟨gb290, 1, none⟩ = some (.int .i64 a0_1) := (blk_cell BK290.out 1).trans rfl
          have hcz9_2 : w6.cell? ⟨gb290, 2, none⟩ = some (.slice A0_2 l0_2.length c0_2) := (blk_cell BK290.out 2).trans rfl
          have hcz9_3 : w6.cell? ⟨gb290, 3, none⟩ = some (.slice A0_3 l0_3.length c0_3) := (blk_cell BK290.out 3).trans rfl
          have hfz9_0 := blk_frozen BK290.out 0
          have hfz9_1 := blk_frozen BK290.out 1
          have hfz9_2 := blk_frozen BK290.out 2
          have hfz9_3 := blk_frozen BK290.out 3
          go_wp2
          go_meet
          case rel => exact ⟨_, (decide ((l0_2.length : Int) > 0)), (by first | rfl | (simp; done) | (simp [*]; done)), H', ⟨by first | omega | exact Nat.le_refl _⟩, ⟨by (with_reducible repeat (first | refine blk_drewN ?_ _ | refine blk_drew ?_ | refine blk_alloc ?_ _)); exact BK290.out⟩, ⟨by repeat (first | (with_reducible first | exact HB.out | apply below_alloc | apply pw_below_drewN | apply below_drew1 | refine below_set ?_ GE290.out) | exact HB.out)⟩⟩
        · rw [if_neg c8] at H
          have c8b0 : (a0_1 == 0) = false := beq_eq_false_iff_ne.mpr c8
          have c8b1 : (a0_1 != 0) = true := bne_iff_ne.mpr c8
          (first | rw [c8b0] | (simp only [i64_w, i32_w]; rw [c8b0]) | skip)
          have H' := Aside0.mk H
          clear H
          have hcz10_0 : w6.cell? ⟨gb290, 0, none⟩ = some (.int .i64 a0_0) := (blk_cell BK290.out 0).trans rfl
          have hcz10_1 : w6.cell? ⟨gb290, 1, none⟩ = some (.int .i64 a0_1) := (blk_cell BK290.out 1).trans rfl
          have hcz10_2 : w6.cell? ⟨gb290, 2, none⟩ = some (.slice A0_2 l0_2.length c0_2) := (blk_cell BK290.out 2).trans rfl
          have hcz10_3 : w6.cell? ⟨gb290, 3, none⟩ = some (.slice A0_3 l0_3.length c0_3) := (blk_cell BK290.out 3).trans rfl
          have hfz10_0 := blk_frozen BK290.out 0
          have hfz10_1 := blk_frozen BK290.out 1
          have hfz10_2 := blk_frozen BK290.out 2
          have hfz10_3 := blk_frozen BK290.out 3
          go_wp2
          go_meet
          case rel => exact ⟨_, (true), (by first | rfl | (simp; done) | (simp [*]; done)), H', ⟨by first | omega | exact Nat.le_refl _⟩, ⟨by (with_reducible repeat (first | refine blk_drewN ?_ _ | refine blk_drew ?_ | refine blk_alloc ?_ _)); exact BK290.out⟩, ⟨by repeat (first | (with_reducible first | exact HB.out | apply below_alloc | apply pw_below_drewN | apply below_drew1 | refine below_set ?_ GE290.out) | exact HB.out)⟩⟩
      case rest =>
        clear HC5
        try clear p2
        try clear c3
        try clear c4
        try clear c4b0
        try clear c4b1
        try clear c5
        try clear c8
        try clear c8b0
        try clear c8b1
        try clear hcz10_0
        try clear hcz10_1
        try clear hcz10_2
        try clear hcz10_3
        try clear hcz7_0
        try clear hcz7_1
        try clear hcz7_2
        try clear hcz7_3
        try clear hcz9_0
        try clear hcz9_1
        try clear hcz9_2
        try clear hcz9_3
        try clear hfz10_0
        try clear hfz10_1
        try clear hfz10_2
        try clear hfz10_3
        try clear hfz7_0
        try clear hfz7_1
        try clear hfz7_2
        try clear hfz7_3
        try clear hfz9_0
        try clear hfz9_1
        try clear hfz9_2
        try clear hfz9_3
        obtain ⟨kq, x18_4, rfl, HA, HJ4, BK290, HB⟩ := hcut
        cases kq with
        | zero => exact absurd HA.out (by simp [chanceryref1_StepError.j0])
        | succ kj4 =>
          have H := HA.out
          clear HA
          simp only [chanceryref1_StepError.j0] at H
          by_cases c11 : x18_4 = true
          · subst c11
            have H1 : (some 4) = some r := by rw [if_pos rfl] at H; exact H
            clear H
            have H := H1
            clear H1
            obtain rfl := Option.some.inj H
            go_wp2
            go_ret
            exact ⟨by first | rfl | (simp [errW_none, errW_some] <;> rfl) | (simp [*, errW_none, errW_some] <;> rfl), by repeat (first | (with_reducible first | exact HB.out | apply below_alloc | apply pw_below_drewN | apply below_drew1 | refine below_set ?_ GE290.out) | exact HB.out)⟩
          · replace c11 := Bool.eq_false_iff.mpr c11
            subst c11
            have H1 : (if (l0_3.length : Int) = 0 then (some 11) else ((chanceryref1_PartError.f kj4 l0_3).bind fun t292 => (some t292))) = some r := by rw [if_neg (show ¬ (false = true) by decide)] at H; exact H
            clear H
            have H := H1
            clear H1
            by_cases c12 : (l0_3.length : Int) = 0
            · rw [if_pos c12] at H
              have c12b0 : ((l0_3.length : Int) == 0) = true := beq_iff_eq.mpr c12
              have c12b1 : ((l0_3.length : Int) != 0) = false := bne_eq_false_iff_eq.mpr c12
              clear c12
              obtain rfl := Option.some.inj H
              have hcz13_0 : wc.cell? ⟨gb290, 0, none⟩ = some (.int .i64 a0_0) := (blk_cell BK290.out 0).trans rfl
              have hcz13_1 : wc.cell? ⟨gb290, 1, none⟩ = some (.int .i64 a0_1) := (blk_cell BK290.out 1).trans rfl
              have hcz13_2 : wc.cell? ⟨gb290, 2, none⟩ = some (.slice A0_2 l0_2.length c0_2) := (blk_cell BK290.out 2).trans rfl
              have hcz13_3 : wc.cell? ⟨gb290, 3, none⟩ = some (.slice A0_3 l0_3.length c0_3) := (blk_cell BK290.out 3).trans rfl
              have hfz13_0 := blk_frozen BK290.out 0
              have hfz13_1 := blk_frozen BK290.out 1
              have hfz13_2 := blk_frozen BK290.out 2
              have hfz13_3 := blk_frozen BK290.out 3
              go_wp2
              go_ret
              exact ⟨by first | rfl | (simp [errW_none, errW_some] <;> rfl) | (simp [*, errW_none, errW_some] <;> rfl), by repeat (first | (with_reducible first | exact HB.out | apply below_alloc | apply pw_below_drewN | apply below_drew1 | refine below_set ?_ GE290.out) | exact HB.out)⟩
            · rw [if_neg c12] at H
              have c12b0 : ((l0_3.length : Int) == 0) = false := beq_eq_false_iff_ne.mpr c12
              have c12b1 : ((l0_3.length : Int) != 0) = true := bne_iff_ne.mpr c12
              have c12b2 : ¬ (l0_3 = []) := fun h_ => c12 (by rw [h_]; rfl)
              replace H := Option.bind_eq_some_iff.mp H
              obtain ⟨t292, A140, H⟩ := H
              replace H : (some t292) = some r := H
              have A14 := Aside0.mk A140
              clear A140
              obtain rfl := Option.some.inj H
              have hcz15_0 : wc.cell? ⟨gb290, 0, none⟩ = some (.int .i64 a0_0) := (blk_cell BK290.out 0).trans rfl
              have hcz15_1 : wc.cell? ⟨gb290, 1, none⟩ = some (.int .i64 a0_1) := (blk_cell BK290.out 1).trans rfl
              have hcz15_2 : wc.cell? ⟨gb290, 2, none⟩ = some (.slice A0_2 l0_2.length c0_2) := (blk_cell BK290.out 2).trans rfl
              have hcz15_3 : wc.cell? ⟨gb290, 3, none⟩ = some (.slice A0_3 l0_3.length c0_3) := (blk_cell BK290.out 3).trans rfl
              have hfz15_0 := blk_frozen BK290.out 0
              have hfz15_1 := blk_frozen BK290.out 1
              have hfz15_2 := blk_frozen BK290.out 2
              have hfz15_3 := blk_frozen BK290.out 3
              go_wp2_with (first | ((with_reducible refine gate_callee (f := 42) rfl ?_); refine goesL_ (some 25) rfl rfl Try.func42 (by kernel_rfl) rfl #[.slice A0_3 l0_3.length c0_3] rfl (by (try simp only [List.map_toArray, List.map_cons, List.map_nil]); first | done | rfl | (simp only [List.length_drop, List.length_take]; rfl)) ?_; (with_reducible refine (chanceryref1_PartError.calls kj4 _ _ l0_3 t292 _ ?side1 ?side2 A14.out).mono ?_); (case side1 => repeat (first | exact (Kd.C_below HR0_3.out HB.out) | (with_reducible refine Kd.C_alloc ?_ _) | (with_reducible refine Kd.C_drewN ?_ _) | (with_reducible refine Kd.C_drew ?_))); (case side2 => exact HC0_3.out); rintro e w16 ⟨rfl, hb⟩; refine ⟨_, rfl, ?_⟩; have n0_ := Aside0.mk (blk_below (g := gb290) (o := .cells #[.int .i64 a0_0, .int .i64 a0_1, .slice A0_2 l0_2.length c0_2, .slice A0_3 l0_3.length c0_3] 70 (0, 0)) (by (with_reducible repeat (first | refine blk_drewN ?_ _ | refine blk_drew ?_ | refine blk_alloc ?_ _)); exact BK290.out) hb); have n1_ := Aside0.mk (below_step (by repeat (first | (with_reducible first | exact HB.out | apply below_alloc | apply pw_below_drewN | apply below_drew1 | refine below_set ?_ GE290.out) | exact HB.out)) hb); clear BK290; clear HB; have BK290 := n0_; have HB := n1_; clear n0_ n1_; (try clear hb); (try clear hb2); (try clear hk); (try clear hi)))
              go_ret
              exact ⟨by first | rfl | (simp [errW_none, errW_some] <;> rfl) | (simp [*, errW_none, errW_some] <;> rfl), by repeat (first | (with_reducible first | exact HB.out | apply below_alloc | apply pw_below_drewN | apply below_drew1 | refine below_set ?_ GE290.out) | exact HB.out)⟩
    · rw [if_neg c4] at H
      have c4b0 : (a0_0 == 1) = false := beq_eq_false_iff_ne.mpr c4
      have c4b1 : (a0_0 != 1) = true := bne_iff_ne.mpr c4
      have HC17 := Aside0.mk H
      clear H
      go_enter Try.func89, Try.ntmps89
      go_upto_region 9 with (first | ((with_reducible refine gate_dst (N := 1) rfl ?_); (try (refine gate_guard (by rfl) ?_; dsimp only)); refine box_event ?hg (N := 1) ?hd (cs := #[.int .i64 a0_0, .int .i64 a0_1, .slice A0_2 l0_2.length c0_2, .slice A0_3 l0_3.length c0_3]) (t := 70) ?hr ?_; (case hd => rfl); (case hg => rfl); (case hr => first | (go_simp; done) | (go_simp; rfl)); intro gb290 hg w18 hbox hb; have n0_ := Aside0.mk (below_step (by repeat (first | (with_reducible first | exact HB.out | apply below_alloc | apply pw_below_drewN | apply below_drew1) | exact HB.out)) hb); have n1_ := Aside0.mk (hbox); have n2_ := Aside0.mk ((by rw [hg]; exact (below_size (by repeat (first | (with_reducible first | exact HB.out | apply below_alloc | apply pw_below_drewN | apply below_drew1) | exact HB.out))) : w.heap.size ≤ gb290)); have n3_ := Aside0.mk ((by rw [hg]; exact (below_size (by repeat (first | (with_reducible first | exact HB.out | apply below_alloc | apply pw_below_drewN | apply below_drew1) | exact HB.out))) : w.heap.size ≤ gb290)); clear HB; have HB := n0_; have BK290 := n1_; have GW290 := n2_; have GE290 := n3_; clear n0_ n1_ n2_ n3_; clear hb hbox hg; have hcz19_0 : w18.cell? ⟨gb290, 0, none⟩ = some (.int .i64 a0_0) := (blk_cell BK290.out 0).trans rfl; have hcz19_1 : w18.cell? ⟨gb290, 1, none⟩ = some (.int .i64 a0_1) := (blk_cell BK290.out 1).trans rfl; have hcz19_2 : w18.cell? ⟨gb290, 2, none⟩ = some (.slice A0_2 l0_2.length c0_2) := (blk_cell BK290.out 2).trans rfl; have hcz19_3 : w18.cell? ⟨gb290, 3, none⟩ = some (.slice A0_3 l0_3.length c0_3) := (blk_cell BK290.out 3).trans rfl; have hfz19_0 := blk_frozen BK290.out 0; have hfz19_1 := blk_frozen BK290.out 1; have hfz19_2 := blk_frozen BK290.out 2; have hfz19_3 := blk_frozen BK290.out 3) | ((with_reducible refine gate_callee (f := 52) rfl ?_); refine goesL_ (some 5) rfl rfl Try.func52 (by kernel_rfl) rfl #[.int .i64 a0_0, .int .i64 0, .int .i64 2] rfl (by (try simp only [List.map_toArray, List.map_cons, List.map_nil]); first | done | rfl | (simp only [List.length_drop, List.length_take]; rfl)) ?_; (with_reducible refine (chanceryref1_In.calls a0_0 0 2 true _ A2.out).mono ?_); rintro e w' ⟨rfl, ⟨nd, rfl⟩⟩; refine ⟨_, rfl, ?_⟩))
      (try simp only [Act.put, List.setIfInBounds_toArray, List.set_cons_zero, List.set_cons_succ])
      go_cut [40] (fun v40 wc => ∃ (kq : Nat) (x40_16 : Bool), v40 = .bool x40_16 ∧ Aside0 (chanceryref1_StepError.j1 kq x40_16 a0_0 a0_1 l0_2 l0_3 = some r) ∧ Aside0 (kq ≤ k) ∧ Aside0 (wc.heap[gb290]? = some (.cells #[.int .i64 a0_0, .int .i64 a0_1, (.slice A0_2 l0_2.length c0_2), (.slice A0_3 l0_3.length c0_3)] 70 (0, 0))) ∧ Aside0 (Below w.heap.size w wc))
      case first =>
        have H := HC17.out
        clear HC17
        by_cases c20 : (l0_3.length : Int) > 0
        · rw [if_pos c20] at H
          have c20b0 : decide (0 < (l0_3.length : Int)) = true := decide_eq_true c20
          have c20b1 : decide (0 < l0_3.length) = true := decide_eq_true (by omega)
          clear c20
          (first | rw [c20b0] | (simp only [i64_w, i32_w]; rw [c20b0]) | skip)
          have H' := Aside0.mk H
          clear H
          have hcz21_0 : w18.cell? ⟨gb290, 0, none⟩ = some (.int .i64 a0_0) := (blk_cell BK290.out 0).trans rfl
          have hcz21_1 : w18.cell? ⟨gb290, 1, none⟩ = some (.int .i64 a0_1) := (blk_cell BK290.out 1).trans rfl
          have hcz21_2 : w18.cell? ⟨gb290, 2, none⟩ = some (.slice A0_2 l0_2.length c0_2) := (blk_cell BK290.out 2).trans rfl
          have hcz21_3 : w18.cell? ⟨gb290, 3, none⟩ = some (.slice A0_3 l0_3.length c0_3) := (blk_cell BK290.out 3).trans rfl
          have hfz21_0 := blk_frozen BK290.out 0
          have hfz21_1 := blk_frozen BK290.out 1
          have hfz21_2 := blk_frozen BK290.out 2
          have hfz21_3 := blk_frozen BK290.out 3
          go_wp2
          go_meet
          case rel => exact ⟨_, (true), (by first | rfl | (simp; done) | (simp [*]; done)), H', ⟨by first | omega | exact Nat.le_refl _⟩, ⟨by (with_reducible repeat (first | refine blk_drewN ?_ _ | refine blk_drew ?_ | refine blk_alloc ?_ _)); exact BK290.out⟩, ⟨by repeat (first | (with_reducible first | exact HB.out | apply below_alloc | apply pw_below_drewN | apply below_drew1 | refine below_set ?_ GE290.out) | exact HB.out)⟩⟩
        · rw [if_neg c20] at H
          have c20b0 : decide (0 < (l0_3.length : Int)) = false := decide_eq_false c20
          have c20b1 : decide (0 < l0_3.length) = false := decide_eq_false (by omega)
          clear c20
          (first | rw [c20b0] | (simp only [i64_w, i32_w]; rw [c20b0]) | skip)
          by_cases c22 : a0_0 = 2
          · rw [if_pos c22] at H
            have c22b0 : (a0_0 == 2) = true := beq_iff_eq.mpr c22
            have c22b1 : (a0_0 != 2) = false := bne_eq_false_iff_eq.mpr c22
            clear c22
            have H' := Aside0.mk H
            clear H
            have hcz23_0 : w18.cell? ⟨gb290, 0, none⟩ = some (.int .i64 a0_0) := (blk_cell BK290.out 0).trans rfl
            have hcz23_1 : w18.cell? ⟨gb290, 1, none⟩ = some (.int .i64 a0_1) := (blk_cell BK290.out 1).trans rfl
            have hcz23_2 : w18.cell? ⟨gb290, 2, none⟩ = some (.slice A0_2 l0_2.length c0_2) := (blk_cell BK290.out 2).trans rfl
            have hcz23_3 : w18.cell? ⟨gb290, 3, none⟩ = some (.slice A0_3 l0_3.length c0_3) := (blk_cell BK290.out 3).trans rfl
            have hfz23_0 := blk_frozen BK290.out 0
            have hfz23_1 := blk_frozen BK290.out 1
            have hfz23_2 := blk_frozen BK290.out 2
            have hfz23_3 := blk_frozen BK290.out 3
            go_wp2
            go_meet
            case rel => exact ⟨_, (decide ((l0_2.length : Int) > 0)), (by first | rfl | (simp; done) | (simp [*]; done)), H', ⟨by first | omega | exact Nat.le_refl _⟩, ⟨by (with_reducible repeat (first | refine blk_drewN ?_ _ | refine blk_drew ?_ | refine blk_alloc ?_ _)); exact BK290.out⟩, ⟨by repeat (first | (with_reducible first | exact HB.out | apply below_alloc | apply pw_below_drewN | apply below_drew1 | refine below_set ?_ GE290.out) | exact HB.out)⟩⟩
          · rw [if_neg c22] at H
            have c22b0 : (a0_0 == 2) = false := beq_eq_false_iff_ne.mpr c22
            have c22b1 : (a0_0 != 2) = true := bne_iff_ne.mpr c22
            have H' := Aside0.mk H
            clear H
            have hcz24_0 : w18.cell? ⟨gb290, 0, none⟩ = some (.int .i64 a0_0) := (blk_cell BK290.out 0).trans rfl
            have hcz24_1 : w18.cell? ⟨gb290, 1, none⟩ = some (.int .i64 a0_1) := (blk_cell BK290.out 1).trans rfl
            have hcz24_2 : w18.cell? ⟨gb290, 2, none⟩ = some (.slice A0_2 l0_2.length c0_2) := (blk_cell BK290.out 2).trans rfl
            have hcz24_3 : w18.cell? ⟨gb290, 3, none⟩ = some (.slice A0_3 l0_3.length c0_3) := (blk_cell BK290.out 3).trans rfl
            have hfz24_0 := blk_frozen BK290.out 0
            have hfz24_1 := blk_frozen BK290.out 1
            have hfz24_2 := blk_frozen BK290.out 2
            have hfz24_3 := blk_frozen BK290.out 3
            go_wp2
            go_meet
            case rel => exact ⟨_, (false), (by first | rfl | (simp; done) | (simp [*]; done)), H', ⟨by first | omega | exact Nat.le_refl _⟩, ⟨by (with_reducible repeat (first | refine blk_drewN ?_ _ | refine blk_drew ?_ | refine blk_alloc ?_ _)); exact BK290.out⟩, ⟨by repeat (first | (with_reducible first | exact HB.out | apply below_alloc | apply pw_below_drewN | apply below_drew1 | refine below_set ?_ GE290.out) | exact HB.out)⟩⟩
      case rest =>
        clear HC17
        try clear c1
        try clear c2
        try clear p2
        try clear c3
        try clear c4
        try clear c4b0
        try clear c4b1
        try clear c5
        try clear c8
        try clear c8b0
        try clear c8b1
        try clear c11
        try clear c12
        try clear c12b0
        try clear c12b1
        try clear c12b2
        try clear c20
        try clear c20b0
        try clear c20b1
        try clear c22
        try clear c22b0
        try clear c22b1
        try clear hcz10_0
        try clear hcz10_1
        try clear hcz10_2
        try clear hcz10_3
        try clear hcz13_0
        try clear hcz13_1
        try clear hcz13_2
        try clear hcz13_3
        try clear hcz15_0
        try clear hcz15_1
        try clear hcz15_2
        try clear hcz15_3
        try clear hcz19_0
        try clear hcz19_1
        try clear hcz19_2
        try clear hcz19_3
        try clear hcz21_0
        try clear hcz21_1
        try clear hcz21_2
        try clear hcz21_3
        try clear hcz23_0
        try clear hcz23_1
        try clear hcz23_2
        try clear hcz23_3
        try clear hcz24_0
        try clear hcz24_1
        try clear hcz24_2
        try clear hcz24_3
        try clear hcz7_0
        try clear hcz7_1
        try clear hcz7_2
        try clear hcz7_3
        try clear hcz9_0
        try clear hcz9_1
        try clear hcz9_2
        try clear hcz9_3
        try clear hfz10_0
        try clear hfz10_1
        try clear hfz10_2
        try clear hfz10_3
        try clear hfz13_0
        try clear hfz13_1
        try clear hfz13_2
        try clear hfz13_3
        try clear hfz15_0
        try clear hfz15_1
        try clear hfz15_2
        try clear hfz15_3
        try clear hfz19_0
        try clear hfz19_1
        try clear hfz19_2
        try clear hfz19_3
        try clear hfz21_0
        try clear hfz21_1
        try clear hfz21_2
        try clear hfz21_3
        try clear hfz23_0
        try clear hfz23_1
        try clear hfz23_2
        try clear hfz23_3
        try clear hfz24_0
        try clear hfz24_1
        try clear hfz24_2
        try clear hfz24_3
        try clear hfz7_0
        try clear hfz7_1
        try clear hfz7_2
        try clear hfz7_3
        try clear hfz9_0
        try clear hfz9_1
        try clear hfz9_2
        try clear hfz9_3
        try clear p2
        obtain ⟨kq, x40_16, rfl, HA, HJ16, BK290, HB⟩ := hcut
        cases kq with
        | zero => exact absurd HA.out (by simp [chanceryref1_StepError.j1])
        | succ kj16 =>
          have H := HA.out
          clear HA
          simp only [chanceryref1_StepError.j1] at H
          by_cases c25 : x40_16 = true
          · subst c25
            have H1 : (some 4) = some r := by rw [if_pos rfl] at H; exact H
            clear H
            have H := H1
            clear H1
            obtain rfl := Option.some.inj H
            go_wp2
            go_ret
            exact ⟨by first | rfl | (simp [errW_none, errW_some] <;> rfl) | (simp [*, errW_none, errW_some] <;> rfl), by repeat (first | (with_reducible first | exact HB.out | apply below_alloc | apply pw_below_drewN | apply below_drew1 | refine below_set ?_ GE290.out) | exact HB.out)⟩
          · replace c25 := Bool.eq_false_iff.mpr c25
            subst c25
            have H1 : ((chanceryref1_In.f a0_1 1 2147483647).bind fun t293 => (if t293 = true then ((chanceryref1_AttrsError.f kj16 l0_2 true).bind fun t294 => (some t294)) else (some 2))) = some r := by rw [if_neg (show ¬ (false = true) by decide)] at H; exact H
            clear H
            have H := H1
            clear H1
            replace H := Option.bind_eq_some_iff.mp H
            obtain ⟨t293, A260, H⟩ := H
            replace H : (if t293 = true then ((chanceryref1_AttrsError.f kj16 l0_2 true).bind fun t294 => (some t294)) else (some 2)) = some r := H
            have A26 := Aside0.mk A260
            clear A260
            by_cases c27 : t293 = true
            · subst c27
              have H1 : ((chanceryref1_AttrsError.f kj16 l0_2 true).bind fun t294 => (some t294)) = some r := by rw [if_pos rfl] at H; exact H
              clear H
              have H := H1
              clear H1
              replace H := Option.bind_eq_some_iff.mp H
              obtain ⟨t294, A280, H⟩ := H
              replace H : (some t294) = some r := H
              have A28 := Aside0.mk A280
              clear A280
              obtain rfl := Option.some.inj H
              have hcz29_0 : wc.cell? ⟨gb290, 0, none⟩ = some (.int .i64 a0_0) := (blk_cell BK290.out 0).trans rfl
              have hcz29_1 : wc.cell? ⟨gb290, 1, none⟩ = some (.int .i64 a0_1) := (blk_cell BK290.out 1).trans rfl
              have hcz29_2 : wc.cell? ⟨gb290, 2, none⟩ = some (.slice A0_2 l0_2.length c0_2) := (blk_cell BK290.out 2).trans rfl
              have hcz29_3 : wc.cell? ⟨gb290, 3, none⟩ = some (.slice A0_3 l0_3.length c0_3) := (blk_cell BK290.out 3).trans rfl
              have hfz29_0 := blk_frozen BK290.out 0
              have hfz29_1 := blk_frozen BK290.out 1
              have hfz29_2 := blk_frozen BK290.out 2
              have hfz29_3 := blk_frozen BK290.out 3
              go_wp2_with (first | ((with_reducible refine gate_callee (f := 52) rfl ?_); refine goesL_ (some 43) rfl rfl Try.func52 (by kernel_rfl) rfl #[.int .i64 a0_1, .int .i64 1, .int .i64 2147483647] rfl (by (try simp only [List.map_toArray, List.map_cons, List.map_nil]); first | done | rfl | (simp only [List.length_drop, List.length_take]; rfl)) ?_; (with_reducible refine (chanceryref1_In.calls a0_1 1 2147483647 true _ A26.out).mono ?_); rintro e w' ⟨rfl, ⟨nd, rfl⟩⟩; refine ⟨_, rfl, ?_⟩) | ((with_reducible refine gate_callee (f := 22) rfl ?_); refine goesL_ (some 47) rfl rfl Try.func22 (by kernel_rfl) rfl #[.slice A0_2 l0_2.length c0_2, .bool true] rfl (by (try simp only [List.map_toArray, List.map_cons, List.map_nil]); first | done | rfl | (simp only [List.length_drop, List.length_take]; rfl)) ?_; (with_reducible refine (chanceryref1_AttrsError.calls kj16 _ _ l0_2 true t294 _ ?side1 ?side2 A28.out).mono ?_); (case side1 => repeat (first | exact (Kd.C_below HR0_2.out (by repeat (first | (with_reducible first | exact HB.out | apply below_alloc | apply pw_below_drewN | apply below_drew1 | refine below_set ?_ GE290.out) | exact HB.out))) | (with_reducible refine Kd.C_alloc ?_ _) | (with_reducible refine Kd.C_drewN ?_ _) | (with_reducible refine Kd.C_drew ?_))); (case side2 => exact HC0_2.out); rintro e w' ⟨rfl, ⟨nd, rfl⟩⟩; refine ⟨_, rfl, ?_⟩))
              go_ret
              exact ⟨by first | rfl | (simp [errW_none, errW_some] <;> rfl) | (simp [*, errW_none, errW_some] <;> rfl), by repeat (first | (with_reducible first | exact HB.out | apply below_alloc | apply pw_below_drewN | apply below_drew1 | refine below_set ?_ GE290.out) | exact HB.out)⟩
            · replace c27 := Bool.eq_false_iff.mpr c27
              subst c27
              have H1 : (some 2) = some r := by rw [if_neg (show ¬ (false = true) by decide)] at H; exact H
              clear H
              have H := H1
              clear H1
              obtain rfl := Option.some.inj H
              have hcz30_0 : wc.cell? ⟨gb290, 0, none⟩ = some (.int .i64 a0_0) := (blk_cell BK290.out 0).trans rfl
              have hcz30_1 : wc.cell? ⟨gb290, 1, none⟩ = some (.int .i64 a0_1) := (blk_cell BK290.out 1).trans rfl
              have hcz30_2 : wc.cell? ⟨gb290, 2, none⟩ = some (.slice A0_2 l0_2.length c0_2) := (blk_cell BK290.out 2).trans rfl
              have hcz30_3 : wc.cell? ⟨gb290, 3, none⟩ = some (.slice A0_3 l0_3.length c0_3) := (blk_cell BK290.out 3).trans rfl
              have hfz30_0 := blk_frozen BK290.out 0
              have hfz30_1 := blk_frozen BK290.out 1
              have hfz30_2 := blk_frozen BK290.out 2
              have hfz30_3 := blk_frozen BK290.out 3
              go_wp2_with (first | ((with_reducible refine gate_callee (f := 52) rfl ?_); refine goesL_ (some 43) rfl rfl Try.func52 (by kernel_rfl) rfl #[.int .i64 a0_1, .int .i64 1, .int .i64 2147483647] rfl (by (try simp only [List.map_toArray, List.map_cons, List.map_nil]); first | done | rfl | (simp only [List.length_drop, List.length_take]; rfl)) ?_; (with_reducible refine (chanceryref1_In.calls a0_1 1 2147483647 false _ A26.out).mono ?_); rintro e w' ⟨rfl, ⟨nd, rfl⟩⟩; refine ⟨_, rfl, ?_⟩))
              go_ret
              exact ⟨by first | rfl | (simp [errW_none, errW_some] <;> rfl) | (simp [*, errW_none, errW_some] <;> rfl), by repeat (first | (with_reducible first | exact HB.out | apply below_alloc | apply pw_below_drewN | apply below_drew1 | refine below_set ?_ GE290.out) | exact HB.out)⟩
  · replace c3 := Bool.eq_false_iff.mpr c3
    subst c3
    have H1 : (some 8) = some r := by rw [if_neg (show ¬ (false = true) by decide)] at H; exact H
    clear H
    have H := H1
    clear H1
    obtain rfl := Option.some.inj H
    go_enter Try.func89, Try.ntmps89
    go_wp2_with (first | ((with_reducible refine gate_dst (N := 1) rfl ?_); (try (refine gate_guard (by rfl) ?_; dsimp only)); refine box_event ?hg (N := 1) ?hd (cs := #[.int .i64 a0_0, .int .i64 a0_1, .slice A0_2 l0_2.length c0_2, .slice A0_3 l0_3.length c0_3]) (t := 70) ?hr ?_; (case hd => rfl); (case hg => rfl); (case hr => first | (go_simp; done) | (go_simp; rfl)); intro gb290 hg w31 hbox hb; have n0_ := Aside0.mk (below_step (by repeat (first | (with_reducible first | exact HB.out | apply below_alloc | apply pw_below_drewN | apply below_drew1) | exact HB.out)) hb); have n1_ := Aside0.mk (hbox); have n2_ := Aside0.mk ((by rw [hg]; exact (below_size (by repeat (first | (with_reducible first | exact HB.out | apply below_alloc | apply pw_below_drewN | apply below_drew1) | exact HB.out))) : w.heap.size ≤ gb290)); have n3_ := Aside0.mk ((by rw [hg]; exact (below_size (by repeat (first | (with_reducible first | exact HB.out | apply below_alloc | apply pw_below_drewN | apply below_drew1) | exact HB.out))) : w.heap.size ≤ gb290)); clear HB; have HB := n0_; have BK290 := n1_; have GW290 := n2_; have GE290 := n3_; clear n0_ n1_ n2_ n3_; clear hb hbox hg; have hcz32_0 : w31.cell? ⟨gb290, 0, none⟩ = some (.int .i64 a0_0) := (blk_cell BK290.out 0).trans rfl; have hcz32_1 : w31.cell? ⟨gb290, 1, none⟩ = some (.int .i64 a0_1) := (blk_cell BK290.out 1).trans rfl; have hcz32_2 : w31.cell? ⟨gb290, 2, none⟩ = some (.slice A0_2 l0_2.length c0_2) := (blk_cell BK290.out 2).trans rfl; have hcz32_3 : w31.cell? ⟨gb290, 3, none⟩ = some (.slice A0_3 l0_3.length c0_3) := (blk_cell BK290.out 3).trans rfl; have hfz32_0 := blk_frozen BK290.out 0; have hfz32_1 := blk_frozen BK290.out 1; have hfz32_2 := blk_frozen BK290.out 2; have hfz32_3 := blk_frozen BK290.out 3) | ((with_reducible refine gate_callee (f := 52) rfl ?_); refine goesL_ (some 5) rfl rfl Try.func52 (by kernel_rfl) rfl #[.int .i64 a0_0, .int .i64 0, .int .i64 2] rfl (by (try simp only [List.map_toArray, List.map_cons, List.map_nil]); first | done | rfl | (simp only [List.length_drop, List.length_take]; rfl)) ?_; (with_reducible refine (chanceryref1_In.calls a0_0 0 2 false _ A2.out).mono ?_); rintro e w' ⟨rfl, ⟨nd, rfl⟩⟩; refine ⟨_, rfl, ?_⟩))
    go_ret
    exact ⟨by first | rfl | (simp [errW_none, errW_some] <;> rfl) | (simp [*, errW_none, errW_some] <;> rfl), by repeat (first | (with_reducible first | exact HB.out | apply below_alloc | apply pw_below_drewN | apply below_drew1 | refine below_set ?_ GE290.out) | exact HB.out)⟩
end Go.Proofs.Ytdgemabmmomebaa.PDelta
end
section
namespace Go.Proofs.Ytdgemabmmomebaa.PDelta
open Go.RowKit Go.Proofs.YtdgemabmmomebaaW.PrintWords Go.Proofs.YtdgemabmmomebaaW.PrintLast Go.Proofs.YtdgemabmmomebaaW.PrintMore
attribute [local go_sem] max2_int min2_int max_two min_two max_three min_three max_four min_four
set_option linter.unusedVariables false
set_option linter.unusedSimpArgs false
attribute [local go_sem high] Go.Proofs.Ytdgemabmmomebaa.Ord.leq_str Go.Proofs.Ytdgemabmmomebaa.Ord.gtr_str Go.Proofs.Ytdgemabmmomebaa.Ord.geq_str
mutual
def chanceryref1_DeltaError.l0 : Nat → List (S70) → Int → Int → Int → Int → Option (Int)
  | 0, _, _, _, _, _ => none
  | k + 1, x0, x3, x4, x10, x11 => if x11 < x10 then (if 0 ≤ x11 then (if x11 < (x0.length : Int) then ((chanceryref1_StepError.f k ((rd_T70 x0 x11).f0) ((rd_T70 x0 x11).f1) ((rd_T70 x0 x11).f2) ((rd_T70 x0 x11).f3)).bind fun t297 => (if t297 = 0 then (if x11 > 0 then (if 0 ≤ (wrap64 (x11 - 1)) then (if (wrap64 (x11 - 1)) < (x0.length : Int) then (if ((rd_T70 x0 x11).f0) = 1 then (if ((rd_T70 x0 (wrap64 (x11 - 1))).f0) = 0 then (chanceryref1_DeltaError.j1 k x0 x3 x4 x10 x11 ((rd_T70 x0 x11).f0) ((rd_T70 x0 x11).f1) ((rd_T70 x0 x11).f2) ((rd_T70 x0 x11).f3)) else (some 5)) else (if ((rd_T70 x0 x11).f0) = 2 then (if ((rd_T70 x0 (wrap64 (x11 - 1))).f0) = 2 then (some 5) else (chanceryref1_DeltaError.j1 k x0 x3 x4 x10 x11 ((rd_T70 x0 x11).f0) ((rd_T70 x0 x11).f1) ((rd_T70 x0 x11).f2) ((rd_T70 x0 x11).f3))) else (if ((rd_T70 x0 (wrap64 (x11 - 1))).f0) = 0 then ((chanceryref1_SameAttrs.f k ((rd_T70 x0 (wrap64 (x11 - 1))).f2) ((rd_T70 x0 x11).f2)).bind fun t300 => (if t300 = true then (some 5) else (chanceryref1_DeltaError.j1 k x0 x3 x4 x10 x11 ((rd_T70 x0 x11).f0) ((rd_T70 x0 x11).f1) ((rd_T70 x0 x11).f2) ((rd_T70 x0 x11).f3)))) else (chanceryref1_DeltaError.j1 k x0 x3 x4 x10 x11 ((rd_T70 x0 x11).f0) ((rd_T70 x0 x11).f1) ((rd_T70 x0 x11).f2) ((rd_T70 x0 x11).f3))))) else (none)) else (none)) else (chanceryref1_DeltaError.j1 k x0 x3 x4 x10 x11 ((rd_T70 x0 x11).f0) ((rd_T70 x0 x11).f1) ((rd_T70 x0 x11).f2) ((rd_T70 x0 x11).f3))) else (some t297))) else (none)) else (none)) else (if x3 > 2147483647 then (some 3) else (if x4 > 2147483647 then (some 3) else (some 0)))
def chanceryref1_DeltaError.j1 : Nat → List (S70) → Int → Int → Int → Int → Int → Int → List (S38) → List (S84) → Option (Int)
  | 0, _, _, _, _, _, _, _, _, _ => none
  | k + 1, x0, x3, x4, x10, x11, x297000, x297001, x297002, x297003 => if x297000 = 1 then (chanceryref1_DeltaError.j2 k x0 x3 x4 x10 x11 false x297000 x297001 x297002 x297003) else (chanceryref1_DeltaError.j2 k x0 x3 x4 x10 x11 (decide (x3 < 2147483648)) x297000 x297001 x297002 x297003)
def chanceryref1_DeltaError.j2 : Nat → List (S70) → Int → Int → Int → Int → Bool → Int → Int → List (S38) → List (S84) → Option (Int)
  | 0, _, _, _, _, _, _, _, _, _, _ => none
  | k + 1, x0, x3, x4, x10, x11, x58, x297000, x297001, x297002, x297003 => if x58 = true then (if x297000 = 2 then (chanceryref1_DeltaError.l0 k x0 (wrap64 (x3 + x297001)) x4 x10 (wrap64 (x11 + 1))) else (if x4 < 2147483648 then (chanceryref1_DeltaError.l0 k x0 (wrap64 (x3 + x297001)) (wrap64 (x4 + (wrap64 (x297001 + (x297003.length : Int))))) x10 (wrap64 (x11 + 1))) else (chanceryref1_DeltaError.l0 k x0 (wrap64 (x3 + x297001)) x4 x10 (wrap64 (x11 + 1))))) else (if x297000 = 2 then (chanceryref1_DeltaError.l0 k x0 x3 x4 x10 (wrap64 (x11 + 1))) else (if x4 < 2147483648 then (chanceryref1_DeltaError.l0 k x0 x3 (wrap64 (x4 + (wrap64 (x297001 + (x297003.length : Int))))) x10 (wrap64 (x11 + 1))) else (chanceryref1_DeltaError.l0 k x0 x3 x4 x10 (wrap64 (x11 + 1)))))
end
def chanceryref1_DeltaError.f (k : Nat) (l0 : List (S70)) : Option (Int) := chanceryref1_DeltaError.l0 k l0 0 0 (l0.length : Int) 0
set_option maxHeartbeats 8000000 in
set_option maxRecDepth 100000 in
theorem chanceryref1_DeltaError.calls (k : Nat) (A0 : Option Addr) (c0 : Nat) (l0 : List (S70)) (r : Int) (w : World) (hr0 : Kd.C k70 w A0 l0.length l0) (hc0 : l0.length ≤ c0) (h : chanceryref1_DeltaError.f k l0 = some r) :
    Calls Try.prog 46 #[.slice A0 l0.length c0] w fun e w' => e = .returned (.int .i64 r) ∧ Below w.heap.size w w' := by
  have hu70 := Try.underlying70
  have HR0 := Aside0.mk hr0
  have HC0 := Aside0.mk hc0
  clear hr0 hc0
  have HB := Aside0.mk (Below.refl w.heap.size w)
  have H : (chanceryref1_DeltaError.l0 k l0 0 0 (l0.length : Int) 0) = some r := h
  clear h
  have H' := Aside0.mk H
  clear H
  go_enter Try.func46, Try.ntmps46
  go_wp2
  go_loopg [3, 4, 11] k (fun kq v3 v4 v11 w' => ∃ (x3_1 : Int) (x4_1 : Int) (x11_1 : Int), v3 = .int .i64 x3_1 ∧ v4 = .int .i64 x4_1 ∧ v11 = .int .i64 x11_1 ∧ Aside0 (chanceryref1_DeltaError.l0 kq l0 x3_1 x4_1 (l0.length : Int) x11_1 = some r) ∧ Aside0 (kq ≤ k) ∧ Aside0 (Below w.heap.size w w'))
  case atStart => exact ⟨(0), (0), (0), (by first | rfl | (simp; done) | (simp [*]; done)), (by first | rfl | (simp; done) | (simp [*]; done)), (by first | rfl | (simp; done) | (simp [*]; done)), H', ⟨Nat.le_refl _⟩, ⟨by repeat (first | (with_reducible first | exact HB.out | apply below_alloc | apply pw_below_drewN | apply below_drew1) | exact HB.out)⟩⟩
  case round =>
    clear H'
    obtain ⟨x3_1, x4_1, x11_1, rfl, rfl, rfl, HA, HK1, HB⟩ := hrel
    cases gk with
    | zero => exact absurd HA.out (by simp [chanceryref1_DeltaError.l0])
    | succ k1 =>
      have H := HA.out
      clear HA
      simp only [chanceryref1_DeltaError.l0] at H
      by_cases c2 : x11_1 < (l0.length : Int)
      · rw [if_pos c2] at H
        have c2b0 : decide (x11_1 < (l0.length : Int)) = true := decide_eq_true c2
        clear c2
        by_cases c3 : 0 ≤ x11_1
        · rw [if_pos c3] at H
          have c3b0 : decide (0 ≤ x11_1) = true := decide_eq_true c3
          clear c3
          by_cases c4 : x11_1 < (l0.length : Int)
          · rw [if_pos c4] at H
            have c4b0 : decide (x11_1 < (l0.length : Int)) = true := decide_eq_true c4
            clear c4
            replace H := Option.bind_eq_some_iff.mp H
            obtain ⟨t297, A50, H⟩ := H
            replace H : (if t297 = 0 then (if x11_1 > 0 then (if 0 ≤ (wrap64 (x11_1 - 1)) then (if (wrap64 (x11_1 - 1)) < (l0.length : Int) then (if ((rd_T70 l0 x11_1).f0) = 1 then (if ((rd_T70 l0 (wrap64 (x11_1 - 1))).f0) = 0 then (chanceryref1_DeltaError.j1 k1 l0 x3_1 x4_1 (l0.length : Int) x11_1 ((rd_T70 l0 x11_1).f0) ((rd_T70 l0 x11_1).f1) ((rd_T70 l0 x11_1).f2) ((rd_T70 l0 x11_1).f3)) else (some 5)) else (if ((rd_T70 l0 x11_1).f0) = 2 then (if ((rd_T70 l0 (wrap64 (x11_1 - 1))).f0) = 2 then (some 5) else (chanceryref1_DeltaError.j1 k1 l0 x3_1 x4_1 (l0.length : Int) x11_1 ((rd_T70 l0 x11_1).f0) ((rd_T70 l0 x11_1).f1) ((rd_T70 l0 x11_1).f2) ((rd_T70 l0 x11_1).f3))) else (if ((rd_T70 l0 (wrap64 (x11_1 - 1))).f0) = 0 then ((chanceryref1_SameAttrs.f k1 ((rd_T70 l0 (wrap64 (x11_1 - 1))).f2) ((rd_T70 l0 x11_1).f2)).bind fun t300 => (if t300 = true then (some 5) else (chanceryref1_DeltaError.j1 k1 l0 x3_1 x4_1 (l0.length : Int) x11_1 ((rd_T70 l0 x11_1).f0) ((rd_T70 l0 x11_1).f1) ((rd_T70 l0 x11_1).f2) ((rd_T70 l0 x11_1).f3)))) else (chanceryref1_DeltaError.j1 k1 l0 x3_1 x4_1 (l0.length : Int) x11_1 ((rd_T70 l0 x11_1).f0) ((rd_T70 l0 x11_1).f1) ((rd_T70 l0 x11_1).f2) ((rd_T70 l0 x11_1).f3))))) else (none)) else (none)) else (chanceryref1_DeltaError.j1 k1 l0 x3_1 x4_1 (l0.length : Int) x11_1 ((rd_T70 l0 x11_1).f0) ((rd_T70 l0 x11_1).f1) ((rd_T70 l0 x11_1).f2) ((rd_T70 l0 x11_1).f3))) else (some t297)) = some r := H
            have A5 := Aside0.mk A50
            clear A50
            by_cases c6 : t297 = 0
            · rw [if_pos c6] at H
              have c6b0 : (t297 == 0) = true := beq_iff_eq.mpr c6
              have c6b1 : (t297 != 0) = false := bne_eq_false_iff_eq.mpr c6
              clear c6
              have HC7 := Aside0.mk H
              clear H
              have p295 : 0 ≤ (x11_1 : Int) := of_decide_eq_true (by first | (with_reducible assumption) | assumption)
              have q295 : x11_1 < (l0.length : Int) := of_decide_eq_true (by first | (with_reducible assumption) | assumption)
              obtain ⟨ad295, A295_2, c295_2, A295_3, c295_3, e295, hx295_0, hx295_1, hx295_2, hx295_3, hl295_2, hi295_2, hl295_3, hi295_3⟩ := at_T70 HR0.out x11_1 p295 q295
              cases e295
              replace hx295_0 := (HB.out.cell (World.block_lt_of_cell? w _ hx295_0)).trans hx295_0
              replace hx295_1 := (HB.out.cell (World.block_lt_of_cell? w _ hx295_1)).trans hx295_1
              replace hx295_2 := (HB.out.cell (World.block_lt_of_cell? w _ hx295_2)).trans hx295_2
              replace hx295_3 := (HB.out.cell (World.block_lt_of_cell? w _ hx295_3)).trans hx295_3
              have HR295_2 := Aside0.mk hi295_2
              have HC295_2 := Aside0.mk hl295_2
              clear hi295_2 hl295_2
              have HR295_3 := Aside0.mk hi295_3
              have HC295_3 := Aside0.mk hl295_3
              clear hi295_3 hl295_3
              replace p295 := eq_true p295
              replace q295 := eq_true q295
              go_upto_if 24 with (first | ((with_reducible refine gate_dst (N := 6) rfl ?_); refine box_event ?hg (N := 6) ?hd (cs := #[.int .i64 0, .int .i64 0, .slice none 0 0, .slice none 0 0]) (t := 70) ?hr ?_; (case hd => rfl); (case hg => rfl); (case hr => first | (go_simp; done) | (go_simp; rfl)); intro gb296 hg w8 hbox hb; have n0_ := Aside0.mk (below_step (by repeat (first | (with_reducible first | exact HB.out | apply below_alloc | apply pw_below_drewN | apply below_drew1) | exact HB.out)) hb); have n1_ := Aside0.mk (hbox); have n2_ := Aside0.mk ((by rw [hg]; exact (below_size (by repeat (first | (with_reducible first | exact HB.out | apply below_alloc | apply pw_below_drewN | apply below_drew1) | exact HB.out))) : w.heap.size ≤ gb296)); have n3_ := Aside0.mk ((by rw [hg]; exact (below_size (by repeat (first | (with_reducible first | exact HB.out | apply below_alloc | apply pw_below_drewN | apply below_drew1) | exact HB.out))) : w.heap.size ≤ gb296)); clear HB; have HB := n0_; have BK296 := n1_; have GW296 := n2_; have GE296 := n3_; clear n0_ n1_ n2_ n3_; clear hb hbox hg; have hcz9_0 : w8.cell? ⟨gb296, 0, none⟩ = some (.int .i64 0) := (blk_cell BK296.out 0).trans rfl; have hcz9_1 : w8.cell? ⟨gb296, 1, none⟩ = some (.int .i64 0) := (blk_cell BK296.out 1).trans rfl; have hcz9_2 : w8.cell? ⟨gb296, 2, none⟩ = some (.slice none 0 0) := (blk_cell BK296.out 2).trans rfl; have hcz9_3 : w8.cell? ⟨gb296, 3, none⟩ = some (.slice none 0 0) := (blk_cell BK296.out 3).trans rfl; have hfz9_0 := blk_frozen BK296.out 0; have hfz9_1 := blk_frozen BK296.out 1; have hfz9_2 := blk_frozen BK296.out 2; have hfz9_3 := blk_frozen BK296.out 3) | ((with_reducible refine gate_callee (f := 89) rfl ?_); refine goesL_ (some 19) rfl rfl Try.func89 (by kernel_rfl) rfl #[.agg #[.int .i64 ((rd_T70 l0 x11_1).f0), .int .i64 ((rd_T70 l0 x11_1).f1), .slice A295_2 ((rd_T70 l0 x11_1).f2).length c295_2, .slice A295_3 ((rd_T70 l0 x11_1).f3).length c295_3]] rfl (by (try simp only [List.map_toArray, List.map_cons, List.map_nil]); first | done | rfl | (simp only [List.length_drop, List.length_take]; rfl)) ?_; (with_reducible refine (chanceryref1_StepError.calls k1 ((rd_T70 l0 x11_1).f0) ((rd_T70 l0 x11_1).f1) _ _ ((rd_T70 l0 x11_1).f2) _ _ ((rd_T70 l0 x11_1).f3) t297 _ ?side1 ?side2 ?side3 ?side4 A5.out).mono ?_); (case side1 => exact Kd.C_below HR295_2.out (by repeat (first | (with_reducible first | exact HB.out | apply below_alloc | apply pw_below_drewN | apply below_drew1 | refine below_set ?_ GE296.out) | exact HB.out))); (case side2 => exact HC295_2.out); (case side3 => exact Kd.C_below HR295_3.out (by repeat (first | (with_reducible first | exact HB.out | apply below_alloc | apply pw_below_drewN | apply below_drew1 | refine below_set ?_ GE296.out) | exact HB.out))); (case side4 => exact HC295_3.out); rintro e w10 ⟨rfl, hb⟩; refine ⟨_, rfl, ?_⟩; have n0_ := Aside0.mk (blk_below (g := gb296) (o := .cells #[.int .i64 ((rd_T70 l0 x11_1).f0), .int .i64 ((rd_T70 l0 x11_1).f1), .slice A295_2 ((rd_T70 l0 x11_1).f2).length c295_2, .slice A295_3 ((rd_T70 l0 x11_1).f3).length c295_3] 70 (0, 0)) (by (with_reducible repeat (first | refine blk_drewN ?_ _ | refine blk_drew ?_ | refine blk_alloc ?_ _)); refine blk_put (cs := #[.int .i64 ((rd_T70 l0 x11_1).f0), .int .i64 ((rd_T70 l0 x11_1).f1), .slice A295_2 ((rd_T70 l0 x11_1).f2).length c295_2, .slice none 0 0]) ?_ 3 _ rfl; (with_reducible repeat (first | refine blk_drewN ?_ _ | refine blk_drew ?_ | refine blk_alloc ?_ _)); refine blk_put (cs := #[.int .i64 ((rd_T70 l0 x11_1).f0), .int .i64 ((rd_T70 l0 x11_1).f1), .slice none 0 0, .slice none 0 0]) ?_ 2 _ rfl; (with_reducible repeat (first | refine blk_drewN ?_ _ | refine blk_drew ?_ | refine blk_alloc ?_ _)); refine blk_put (cs := #[.int .i64 ((rd_T70 l0 x11_1).f0), .int .i64 0, .slice none 0 0, .slice none 0 0]) ?_ 1 _ rfl; (with_reducible repeat (first | refine blk_drewN ?_ _ | refine blk_drew ?_ | refine blk_alloc ?_ _)); refine blk_put (cs := #[.int .i64 0, .int .i64 0, .slice none 0 0, .slice none 0 0]) ?_ 0 _ rfl; (with_reducible repeat (first | refine blk_drewN ?_ _ | refine blk_drew ?_ | refine blk_alloc ?_ _)); exact BK296.out) hb); have n1_ := Aside0.mk (below_step (by repeat (first | (with_reducible first | exact HB.out | apply below_alloc | apply pw_below_drewN | apply below_drew1 | refine below_set ?_ GE296.out) | exact HB.out)) hb); clear BK296; clear HB; have BK296 := n0_; have HB := n1_; clear n0_ n1_; (try clear hb); (try clear hb2); (try clear hk); (try clear hi)))
              (try simp only [Act.put, List.setIfInBounds_toArray, List.set_cons_zero, List.set_cons_succ])
              go_cut [] (fun wc => ∃ (kq : Nat), Aside0 (chanceryref1_DeltaError.j1 kq l0 x3_1 x4_1 (l0.length : Int) x11_1 ((rd_T70 l0 x11_1).f0) ((rd_T70 l0 x11_1).f1) ((rd_T70 l0 x11_1).f2) ((rd_T70 l0 x11_1).f3) = some r) ∧ Aside0 (kq ≤ k1) ∧ Aside0 (wc.heap[gb296]? = some (.cells #[.int .i64 ((rd_T70 l0 x11_1).f0), .int .i64 ((rd_T70 l0 x11_1).f1), (.slice A295_2 ((rd_T70 l0 x11_1).f2).length c295_2), (.slice A295_3 ((rd_T70 l0 x11_1).f3).length c295_3)] 70 (0, 0))) ∧ Aside0 (Below w.heap.size w wc))
              case first =>
                have H := HC7.out
                clear HC7
                by_cases c11 : x11_1 > 0
                · rw [if_pos c11] at H
                  have c11b0 : decide (0 < x11_1) = true := decide_eq_true c11
                  clear c11
                  (first | rw [c11b0] | (simp only [i64_w, i32_w]; rw [c11b0]) | skip)
                  obtain ⟨ji12, hji12⟩ : ∃ j_ : Int, (wrap64 (x11_1 - 1)) = j_ := ⟨_, rfl⟩
                  replace H : (if 0 ≤ (ji12) then (if (ji12) < (l0.length : Int) then (if ((rd_T70 l0 x11_1).f0) = 1 then (if ((rd_T70 l0 (ji12)).f0) = 0 then (chanceryref1_DeltaError.j1 k1 l0 x3_1 x4_1 (l0.length : Int) x11_1 ((rd_T70 l0 x11_1).f0) ((rd_T70 l0 x11_1).f1) ((rd_T70 l0 x11_1).f2) ((rd_T70 l0 x11_1).f3)) else (some 5)) else (if ((rd_T70 l0 x11_1).f0) = 2 then (if ((rd_T70 l0 (ji12)).f0) = 2 then (some 5) else (chanceryref1_DeltaError.j1 k1 l0 x3_1 x4_1 (l0.length : Int) x11_1 ((rd_T70 l0 x11_1).f0) ((rd_T70 l0 x11_1).f1) ((rd_T70 l0 x11_1).f2) ((rd_T70 l0 x11_1).f3))) else (if ((rd_T70 l0 (ji12)).f0) = 0 then ((chanceryref1_SameAttrs.f k1 ((rd_T70 l0 (ji12)).f2) ((rd_T70 l0 x11_1).f2)).bind fun t300 => (if t300 = true then (some 5) else (chanceryref1_DeltaError.j1 k1 l0 x3_1 x4_1 (l0.length : Int) x11_1 ((rd_T70 l0 x11_1).f0) ((rd_T70 l0 x11_1).f1) ((rd_T70 l0 x11_1).f2) ((rd_T70 l0 x11_1).f3)))) else (chanceryref1_DeltaError.j1 k1 l0 x3_1 x4_1 (l0.length : Int) x11_1 ((rd_T70 l0 x11_1).f0) ((rd_T70 l0 x11_1).f1) ((rd_T70 l0 x11_1).f2) ((rd_T70 l0 x11_1).f3))))) else (none)) else (none)) = some r := by first | (rw [hji12] at H; exact H) | (simp only [hji12] at H ⊢; exact H)
                  have hji12w : (IntKind.i64.wrap (x11_1 - 1)) = ji12 := (i64_w _).trans hji12
                  by_cases c13 : 0 ≤ (ji12)
                  · rw [if_pos c13] at H
                    have c13b0 : decide (0 ≤ (ji12)) = true := decide_eq_true c13
                    clear c13
                    by_cases c14 : (ji12) < (l0.length : Int)
                    · rw [if_pos c14] at H
                      have c14b0 : decide ((ji12) < (l0.length : Int)) = true := decide_eq_true c14
                      clear c14
                      by_cases c15 : ((rd_T70 l0 x11_1).f0) = 1
                      · rw [if_pos c15] at H
                        have c15b0 : (((rd_T70 l0 x11_1).f0) == 1) = true := beq_iff_eq.mpr c15
                        have c15b1 : (((rd_T70 l0 x11_1).f0) != 1) = false := bne_eq_false_iff_eq.mpr c15
                        clear c15
                        by_cases c16 : ((rd_T70 l0 (ji12)).f0) = 0
                        · rw [if_pos c16] at H
                          have c16b0 : (((rd_T70 l0 (ji12)).f0) == 0) = true := beq_iff_eq.mpr c16
                          have c16b1 : (((rd_T70 l0 (ji12)).f0) != 0) = false := bne_eq_false_iff_eq.mpr c16
                          clear c16
                          have H' := Aside0.mk H
                          clear H
                          have p298 : 0 ≤ ((ji12) : Int) := of_decide_eq_true (by first | (with_reducible assumption) | assumption)
                          have q298 : (ji12) < (l0.length : Int) := of_decide_eq_true (by first | (with_reducible assumption) | assumption)
                          obtain ⟨ad298, A298_2, c298_2, A298_3, c298_3, e298, hx298_0, hx298_1, hx298_2, hx298_3, hl298_2, hi298_2, hl298_3, hi298_3⟩ := at_T70 HR0.out (ji12) p298 q298
                          obtain rfl : ad295 = ad298 := (by injection e298)
                          replace hx298_0 := (HB.out.cell (World.block_lt_of_cell? w _ hx298_0)).trans hx298_0
                          replace hx298_1 := (HB.out.cell (World.block_lt_of_cell? w _ hx298_1)).trans hx298_1
                          replace hx298_2 := (HB.out.cell (World.block_lt_of_cell? w _ hx298_2)).trans hx298_2
                          replace hx298_3 := (HB.out.cell (World.block_lt_of_cell? w _ hx298_3)).trans hx298_3
                          have HR298_2 := Aside0.mk hi298_2
                          have HC298_2 := Aside0.mk hl298_2
                          clear hi298_2 hl298_2
                          have HR298_3 := Aside0.mk hi298_3
                          have HC298_3 := Aside0.mk hl298_3
                          clear hi298_3 hl298_3
                          replace p298 := eq_true p298
                          replace q298 := eq_true q298
                          go_wp2_with (first | ((with_reducible refine gate_dst (N := 8) rfl ?_); refine box_event ?hg (N := 8) ?hd (cs := #[.int .i64 0, .int .i64 0, .slice none 0 0, .slice none 0 0]) (t := 70) ?hr ?_; (case hd => rfl); (case hg => rfl); (case hr => first | (go_simp; done) | (go_simp; rfl)); intro gb299 hg w17 hbox hb; have n0_ := Aside0.mk (blk_below (g := gb296) (o := .cells #[.int .i64 ((rd_T70 l0 x11_1).f0), .int .i64 ((rd_T70 l0 x11_1).f1), .slice A295_2 ((rd_T70 l0 x11_1).f2).length c295_2, .slice A295_3 ((rd_T70 l0 x11_1).f3).length c295_3] 70 (0, 0)) (by (with_reducible repeat (first | refine blk_drewN ?_ _ | refine blk_drew ?_ | refine blk_alloc ?_ _)); exact BK296.out) hb); have n1_ := Aside0.mk (below_step (by repeat (first | (with_reducible first | exact HB.out | apply below_alloc | apply pw_below_drewN | apply below_drew1 | refine below_set ?_ GE296.out) | exact HB.out)) hb); have n2_ := Aside0.mk (hbox); have n3_ := Aside0.mk ((by rw [hg]; exact (below_size (by repeat (first | (with_reducible first | exact HB.out | apply below_alloc | apply pw_below_drewN | apply below_drew1 | refine below_set ?_ GE296.out) | exact HB.out))) : w.heap.size ≤ gb299)); have n4_ := Aside0.mk ((by rw [hg]; exact (below_size (by repeat (first | (with_reducible first | exact HB.out | apply below_alloc | apply pw_below_drewN | apply below_drew1 | refine below_set ?_ GE296.out) | exact HB.out))) : w.heap.size ≤ gb299)); have n5_ := Aside0.mk ((by rw [hg]; exact Nat.ne_of_lt (blk_lt (g := gb296) (o := .cells #[.int .i64 ((rd_T70 l0 x11_1).f0), .int .i64 ((rd_T70 l0 x11_1).f1), .slice A295_2 ((rd_T70 l0 x11_1).f2).length c295_2, .slice A295_3 ((rd_T70 l0 x11_1).f3).length c295_3] 70 (0, 0)) (by (with_reducible repeat (first | refine blk_drewN ?_ _ | refine blk_drew ?_ | refine blk_alloc ?_ _)); exact BK296.out)) : gb296 ≠ gb299)); have n6_ := Aside0.mk ((by rw [hg]; exact Nat.ne_of_gt (blk_lt (g := gb296) (o := .cells #[.int .i64 ((rd_T70 l0 x11_1).f0), .int .i64 ((rd_T70 l0 x11_1).f1), .slice A295_2 ((rd_T70 l0 x11_1).f2).length c295_2, .slice A295_3 ((rd_T70 l0 x11_1).f3).length c295_3] 70 (0, 0)) (by (with_reducible repeat (first | refine blk_drewN ?_ _ | refine blk_drew ?_ | refine blk_alloc ?_ _)); exact BK296.out)) : gb299 ≠ gb296)); clear BK296; clear HB; have BK296 := n0_; have HB := n1_; have BK299 := n2_; have GW299 := n3_; have GE299 := n4_; have NB296_299 := n5_; have NB299_296 := n6_; clear n0_ n1_ n2_ n3_ n4_ n5_ n6_; clear hb hbox hg; have hnb18 := NB299_296.out; have hnc18 := NB296_299.out; have hcz19_0 : w17.cell? ⟨gb299, 0, none⟩ = some (.int .i64 0) := (blk_cell BK299.out 0).trans rfl; have hcz19_1 : w17.cell? ⟨gb299, 1, none⟩ = some (.int .i64 0) := (blk_cell BK299.out 1).trans rfl; have hcz19_2 : w17.cell? ⟨gb299, 2, none⟩ = some (.slice none 0 0) := (blk_cell BK299.out 2).trans rfl; have hcz19_3 : w17.cell? ⟨gb299, 3, none⟩ = some (.slice none 0 0) := (blk_cell BK299.out 3).trans rfl; have hfz19_0 := blk_frozen BK299.out 0; have hfz19_1 := blk_frozen BK299.out 1; have hfz19_2 := blk_frozen BK299.out 2; have hfz19_3 := blk_frozen BK299.out 3; have hcz20_0 : w17.cell? ⟨gb296, 0, none⟩ = some (.int .i64 ((rd_T70 l0 x11_1).f0)) := (blk_cell BK296.out 0).trans rfl; have hcz20_1 : w17.cell? ⟨gb296, 1, none⟩ = some (.int .i64 ((rd_T70 l0 x11_1).f1)) := (blk_cell BK296.out 1).trans rfl; have hcz20_2 : w17.cell? ⟨gb296, 2, none⟩ = some (.slice A295_2 ((rd_T70 l0 x11_1).f2).length c295_2) := (blk_cell BK296.out 2).trans rfl; have hcz20_3 : w17.cell? ⟨gb296, 3, none⟩ = some (.slice A295_3 ((rd_T70 l0 x11_1).f3).length c295_3) := (blk_cell BK296.out 3).trans rfl; have hfz20_0 := blk_frozen BK296.out 0; have hfz20_1 := blk_frozen BK296.out 1; have hfz20_2 := blk_frozen BK296.out 2; have hfz20_3 := blk_frozen BK296.out 3))
                          go_meet
                          case rel => exact ⟨_, H', ⟨by have := HK1.out; first | omega | exact Nat.le_refl _⟩, ⟨by (with_reducible repeat (first | refine blk_drewN ?_ _ | refine blk_drew ?_ | refine blk_alloc ?_ _)); refine blk_far ?_ NB296_299.out _; (with_reducible repeat (first | refine blk_drewN ?_ _ | refine blk_drew ?_ | refine blk_alloc ?_ _)); refine blk_far ?_ NB296_299.out _; (with_reducible repeat (first | refine blk_drewN ?_ _ | refine blk_drew ?_ | refine blk_alloc ?_ _)); refine blk_far ?_ NB296_299.out _; (with_reducible repeat (first | refine blk_drewN ?_ _ | refine blk_drew ?_ | refine blk_alloc ?_ _)); refine blk_far ?_ NB296_299.out _; (with_reducible repeat (first | refine blk_drewN ?_ _ | refine blk_drew ?_ | refine blk_alloc ?_ _)); exact BK296.out⟩, ⟨by repeat (first | (with_reducible first | exact HB.out | apply below_alloc | apply pw_below_drewN | apply below_drew1 | refine below_set ?_ GE296.out | refine below_set ?_ GE299.out) | exact HB.out)⟩⟩
                        · rw [if_neg c16] at H
                          have c16b0 : (((rd_T70 l0 (ji12)).f0) == 0) = false := beq_eq_false_iff_ne.mpr c16
                          have c16b1 : (((rd_T70 l0 (ji12)).f0) != 0) = true := bne_iff_ne.mpr c16
                          obtain rfl := Option.some.inj H
                          have p298 : 0 ≤ ((ji12) : Int) := of_decide_eq_true (by first | (with_reducible assumption) | assumption)
                          have q298 : (ji12) < (l0.length : Int) := of_decide_eq_true (by first | (with_reducible assumption) | assumption)
                          obtain ⟨ad298, A298_2, c298_2, A298_3, c298_3, e298, hx298_0, hx298_1, hx298_2, hx298_3, hl298_2, hi298_2, hl298_3, hi298_3⟩ := at_T70 HR0.out (ji12) p298 q298
                          obtain rfl : ad295 = ad298 := (by injection e298)
                          replace hx298_0 := (HB.out.cell (World.block_lt_of_cell? w _ hx298_0)).trans hx298_0
                          replace hx298_1 := (HB.out.cell (World.block_lt_of_cell? w _ hx298_1)).trans hx298_1
                          replace hx298_2 := (HB.out.cell (World.block_lt_of_cell? w _ hx298_2)).trans hx298_2
                          replace hx298_3 := (HB.out.cell (World.block_lt_of_cell? w _ hx298_3)).trans hx298_3
                          have HR298_2 := Aside0.mk hi298_2
                          have HC298_2 := Aside0.mk hl298_2
                          clear hi298_2 hl298_2
                          have HR298_3 := Aside0.mk hi298_3
                          have HC298_3 := Aside0.mk hl298_3
                          clear hi298_3 hl298_3
                          replace p298 := eq_true p298
                          replace q298 := eq_true q298
                          go_wp2_with (first | ((with_reducible refine gate_dst (N := 8) rfl ?_); refine box_event ?hg (N := 8) ?hd (cs := #[.int .i64 0, .int .i64 0, .slice none 0 0, .slice none 0 0]) (t := 70) ?hr ?_; (case hd => rfl); (case hg => rfl); (case hr => first | (go_simp; done) | (go_simp; rfl)); intro gb299 hg w21 hbox hb; have n0_ := Aside0.mk (blk_below (g := gb296) (o := .cells #[.int .i64 ((rd_T70 l0 x11_1).f0), .int .i64 ((rd_T70 l0 x11_1).f1), .slice A295_2 ((rd_T70 l0 x11_1).f2).length c295_2, .slice A295_3 ((rd_T70 l0 x11_1).f3).length c295_3] 70 (0, 0)) (by (with_reducible repeat (first | refine blk_drewN ?_ _ | refine blk_drew ?_ | refine blk_alloc ?_ _)); exact BK296.out) hb); have n1_ := Aside0.mk (below_step (by repeat (first | (with_reducible first | exact HB.out | apply below_alloc | apply pw_below_drewN | apply below_drew1 | refine below_set ?_ GE296.out) | exact HB.out)) hb); have n2_ := Aside0.mk (hbox); have n3_ := Aside0.mk ((by rw [hg]; exact (below_size (by repeat (first | (with_reducible first | exact HB.out | apply below_alloc | apply pw_below_drewN | apply below_drew1 | refine below_set ?_ GE296.out) | exact HB.out))) : w.heap.size ≤ gb299)); have n4_ := Aside0.mk ((by rw [hg]; exact (below_size (by repeat (first | (with_reducible first | exact HB.out | apply below_alloc | apply pw_below_drewN | apply below_drew1 | refine below_set ?_ GE296.out) | exact HB.out))) : w.heap.size ≤ gb299)); have n5_ := Aside0.mk ((by rw [hg]; exact Nat.ne_of_lt (blk_lt (g := gb296) (o := .cells #[.int .i64 ((rd_T70 l0 x11_1).f0), .int .i64 ((rd_T70 l0 x11_1).f1), .slice A295_2 ((rd_T70 l0 x11_1).f2).length c295_2, .slice A295_3 ((rd_T70 l0 x11_1).f3).length c295_3] 70 (0, 0)) (by (with_reducible repeat (first | refine blk_drewN ?_ _ | refine blk_drew ?_ | refine blk_alloc ?_ _)); exact BK296.out)) : gb296 ≠ gb299)); have n6_ := Aside0.mk ((by rw [hg]; exact Nat.ne_of_gt (blk_lt (g := gb296) (o := .cells #[.int .i64 ((rd_T70 l0 x11_1).f0), .int .i64 ((rd_T70 l0 x11_1).f1), .slice A295_2 ((rd_T70 l0 x11_1).f2).length c295_2, .slice A295_3 ((rd_T70 l0 x11_1).f3).length c295_3] 70 (0, 0)) (by (with_reducible repeat (first | refine blk_drewN ?_ _ | refine blk_drew ?_ | refine blk_alloc ?_ _)); exact BK296.out)) : gb299 ≠ gb296)); clear BK296; clear HB; have BK296 := n0_; have HB := n1_; have BK299 := n2_; have GW299 := n3_; have GE299 := n4_; have NB296_299 := n5_; have NB299_296 := n6_; clear n0_ n1_ n2_ n3_ n4_ n5_ n6_; clear hb hbox hg; have hnb22 := NB299_296.out; have hnc22 := NB296_299.out; have hcz23_0 : w21.cell? ⟨gb299, 0, none⟩ = some (.int .i64 0) := (blk_cell BK299.out 0).trans rfl; have hcz23_1 : w21.cell? ⟨gb299, 1, none⟩ = some (.int .i64 0) := (blk_cell BK299.out 1).trans rfl; have hcz23_2 : w21.cell? ⟨gb299, 2, none⟩ = some (.slice none 0 0) := (blk_cell BK299.out 2).trans rfl; have hcz23_3 : w21.cell? ⟨gb299, 3, none⟩ = some (.slice none 0 0) := (blk_cell BK299.out 3).trans rfl; have hfz23_0 := blk_frozen BK299.out 0; have hfz23_1 := blk_frozen BK299.out 1; have hfz23_2 := blk_frozen BK299.out 2; have hfz23_3 := blk_frozen BK299.out 3; have hcz24_0 : w21.cell? ⟨gb296, 0, none⟩ = some (.int .i64 ((rd_T70 l0 x11_1).f0)) := (blk_cell BK296.out 0).trans rfl; have hcz24_1 : w21.cell? ⟨gb296, 1, none⟩ = some (.int .i64 ((rd_T70 l0 x11_1).f1)) := (blk_cell BK296.out 1).trans rfl; have hcz24_2 : w21.cell? ⟨gb296, 2, none⟩ = some (.slice A295_2 ((rd_T70 l0 x11_1).f2).length c295_2) := (blk_cell BK296.out 2).trans rfl; have hcz24_3 : w21.cell? ⟨gb296, 3, none⟩ = some (.slice A295_3 ((rd_T70 l0 x11_1).f3).length c295_3) := (blk_cell BK296.out 3).trans rfl; have hfz24_0 := blk_frozen BK296.out 0; have hfz24_1 := blk_frozen BK296.out 1; have hfz24_2 := blk_frozen BK296.out 2; have hfz24_3 := blk_frozen BK296.out 3))
                          go_ret
                          exact ⟨by first | rfl | (simp [errW_none, errW_some] <;> rfl) | (simp only [← hji12]; first | rfl | (simp [errW_none, errW_some] <;> rfl)) | (simp [*, errW_none, errW_some] <;> rfl), by repeat (first | (with_reducible first | exact HB.out | apply below_alloc | apply pw_below_drewN | apply below_drew1 | refine below_set ?_ GE296.out | refine below_set ?_ GE299.out) | exact HB.out)⟩
                      · rw [if_neg c15] at H
                        have c15b0 : (((rd_T70 l0 x11_1).f0) == 1) = false := beq_eq_false_iff_ne.mpr c15
                        have c15b1 : (((rd_T70 l0 x11_1).f0) != 1) = true := bne_iff_ne.mpr c15
                        by_cases c25 : ((rd_T70 l0 x11_1).f0) = 2
                        · rw [if_pos c25] at H
                          have c25b0 : (((rd_T70 l0 x11_1).f0) == 2) = true := beq_iff_eq.mpr c25
                          have c25b1 : (((rd_T70 l0 x11_1).f0) != 2) = false := bne_eq_false_iff_eq.mpr c25
                          clear c25
                          by_cases c26 : ((rd_T70 l0 (ji12)).f0) = 2
                          · rw [if_pos c26] at H
                            have c26b0 : (((rd_T70 l0 (ji12)).f0) == 2) = true := beq_iff_eq.mpr c26
                            have c26b1 : (((rd_T70 l0 (ji12)).f0) != 2) = false := bne_eq_false_iff_eq.mpr c26
                            clear c26
                            obtain rfl := Option.some.inj H
                            have p298 : 0 ≤ ((ji12) : Int) := of_decide_eq_true (by first | (with_reducible assumption) | assumption)
                            have q298 : (ji12) < (l0.length : Int) := of_decide_eq_true (by first | (with_reducible assumption) | assumption)
                            obtain ⟨ad298, A298_2, c298_2, A298_3, c298_3, e298, hx298_0, hx298_1, hx298_2, hx298_3, hl298_2, hi298_2, hl298_3, hi298_3⟩ := at_T70 HR0.out (ji12) p298 q298
                            obtain rfl : ad295 = ad298 := (by injection e298)
                            replace hx298_0 := (HB.out.cell (World.block_lt_of_cell? w _ hx298_0)).trans hx298_0
                            replace hx298_1 := (HB.out.cell (World.block_lt_of_cell? w _ hx298_1)).trans hx298_1
                            replace hx298_2 := (HB.out.cell (World.block_lt_of_cell? w _ hx298_2)).trans hx298_2
                            replace hx298_3 := (HB.out.cell (World.block_lt_of_cell? w _ hx298_3)).trans hx298_3
                            have HR298_2 := Aside0.mk hi298_2
                            have HC298_2 := Aside0.mk hl298_2
                            clear hi298_2 hl298_2
                            have HR298_3 := Aside0.mk hi298_3
                            have HC298_3 := Aside0.mk hl298_3
                            clear hi298_3 hl298_3
                            replace p298 := eq_true p298
                            replace q298 := eq_true q298
                            go_wp2_with (first | ((with_reducible refine gate_dst (N := 8) rfl ?_); refine box_event ?hg (N := 8) ?hd (cs := #[.int .i64 0, .int .i64 0, .slice none 0 0, .slice none 0 0]) (t := 70) ?hr ?_; (case hd => rfl); (case hg => rfl); (case hr => first | (go_simp; done) | (go_simp; rfl)); intro gb299 hg w27 hbox hb; have n0_ := Aside0.mk (blk_below (g := gb296) (o := .cells #[.int .i64 ((rd_T70 l0 x11_1).f0), .int .i64 ((rd_T70 l0 x11_1).f1), .slice A295_2 ((rd_T70 l0 x11_1).f2).length c295_2, .slice A295_3 ((rd_T70 l0 x11_1).f3).length c295_3] 70 (0, 0)) (by (with_reducible repeat (first | refine blk_drewN ?_ _ | refine blk_drew ?_ | refine blk_alloc ?_ _)); exact BK296.out) hb); have n1_ := Aside0.mk (below_step (by repeat (first | (with_reducible first | exact HB.out | apply below_alloc | apply pw_below_drewN | apply below_drew1 | refine below_set ?_ GE296.out) | exact HB.out)) hb); have n2_ := Aside0.mk (hbox); have n3_ := Aside0.mk ((by rw [hg]; exact (below_size (by repeat (first | (with_reducible first | exact HB.out | apply below_alloc | apply pw_below_drewN | apply below_drew1 | refine below_set ?_ GE296.out) | exact HB.out))) : w.heap.size ≤ gb299)); have n4_ := Aside0.mk ((by rw [hg]; exact (below_size (by repeat (first | (with_reducible first | exact HB.out | apply below_alloc | apply pw_below_drewN | apply below_drew1 | refine below_set ?_ GE296.out) | exact HB.out))) : w.heap.size ≤ gb299)); have n5_ := Aside0.mk ((by rw [hg]; exact Nat.ne_of_lt (blk_lt (g := gb296) (o := .cells #[.int .i64 ((rd_T70 l0 x11_1).f0), .int .i64 ((rd_T70 l0 x11_1).f1), .slice A295_2 ((rd_T70 l0 x11_1).f2).length c295_2, .slice A295_3 ((rd_T70 l0 x11_1).f3).length c295_3] 70 (0, 0)) (by (with_reducible repeat (first | refine blk_drewN ?_ _ | refine blk_drew ?_ | refine blk_alloc ?_ _)); exact BK296.out)) : gb296 ≠ gb299)); have n6_ := Aside0.mk ((by rw [hg]; exact Nat.ne_of_gt (blk_lt (g := gb296) (o := .cells #[.int .i64 ((rd_T70 l0 x11_1).f0), .int .i64 ((rd_T70 l0 x11_1).f1), .slice A295_2 ((rd_T70 l0 x11_1).f2).length c295_2, .slice A295_3 ((rd_T70 l0 x11_1).f3).length c295_3] 70 (0, 0)) (by (with_reducible repeat (first | refine blk_drewN ?_ _ | refine blk_drew ?_ | refine blk_alloc ?_ _)); exact BK296.out)) : gb299 ≠ gb296)); clear BK296; clear HB; have BK296 := n0_; have HB := n1_; have BK299 := n2_; have GW299 := n3_; have GE299 := n4_; have NB296_299 := n5_; have NB299_296 := n6_; clear n0_ n1_ n2_ n3_ n4_ n5_ n6_; clear hb hbox hg; have hnb28 := NB299_296.out; have hnc28 := NB296_299.out; have hcz29_0 : w27.cell? ⟨gb299, 0, none⟩ = some (.int .i64 0) := (blk_cell BK299.out 0).trans rfl; have hcz29_1 : w27.cell? ⟨gb299, 1, none⟩ = some (.int .i64 0) := (blk_cell BK299.out 1).trans rfl; have hcz29_2 : w27.cell? ⟨gb299, 2, none⟩ = some (.slice none 0 0) := (blk_cell BK299.out 2).trans rfl; have hcz29_3 : w27.cell? ⟨gb299, 3, none⟩ = some (.slice none 0 0) := (blk_cell BK299.out 3).trans rfl; have hfz29_0 := blk_frozen BK299.out 0; have hfz29_1 := blk_frozen BK299.out 1; have hfz29_2 := blk_frozen BK299.out 2; have hfz29_3 := blk_frozen BK299.out 3; have hcz30_0 : w27.cell? ⟨gb296, 0, none⟩ = some (.int .i64 ((rd_T70 l0 x11_1).f0)) := (blk_cell BK296.out 0).trans rfl; have hcz30_1 : w27.cell? ⟨gb296, 1, none⟩ = some (.int .i64 ((rd_T70 l0 x11_1).f1)) := (blk_cell BK296.out 1).trans rfl; have hcz30_2 : w27.cell? ⟨gb296, 2, none⟩ = some (.slice A295_2 ((rd_T70 l0 x11_1).f2).length c295_2) := (blk_cell BK296.out 2).trans rfl; have hcz30_3 : w27.cell? ⟨gb296, 3, none⟩ = some (.slice A295_3 ((rd_T70 l0 x11_1).f3).length c295_3) := (blk_cell BK296.out 3).trans rfl; have hfz30_0 := blk_frozen BK296.out 0; have hfz30_1 := blk_frozen BK296.out 1; have hfz30_2 := blk_frozen BK296.out 2; have hfz30_3 := blk_frozen BK296.out 3))
                            go_ret
                            exact ⟨by first | rfl | (simp [errW_none, errW_some] <;> rfl) | (simp only [← hji12]; first | rfl | (simp [errW_none, errW_some] <;> rfl)) | (simp [*, errW_none, errW_some] <;> rfl), by repeat (first | (with_reducible first | exact HB.out | apply below_alloc | apply pw_below_drewN | apply below_drew1 | refine below_set ?_ GE296.out | refine below_set ?_ GE299.out) | exact HB.out)⟩
                          · rw [if_neg c26] at H
                            have c26b0 : (((rd_T70 l0 (ji12)).f0) == 2) = false := beq_eq_false_iff_ne.mpr c26
                            have c26b1 : (((rd_T70 l0 (ji12)).f0) != 2) = true := bne_iff_ne.mpr c26
                            have H' := Aside0.mk H
                            clear H
                            have p298 : 0 ≤ ((ji12) : Int) := of_decide_eq_true (by first | (with_reducible assumption) | assumption)
                            have q298 : (ji12) < (l0.length : Int) := of_decide_eq_true (by first | (with_reducible assumption) | assumption)
                            obtain ⟨ad298, A298_2, c298_2, A298_3, c298_3, e298, hx298_0, hx298_1, hx298_2, hx298_3, hl298_2, hi298_2, hl298_3, hi298_3⟩ := at_T70 HR0.out (ji12) p298 q298
                            obtain rfl : ad295 = ad298 := (by injection e298)
                            replace hx298_0 := (HB.out.cell (World.block_lt_of_cell? w _ hx298_0)).trans hx298_0
                            replace hx298_1 := (HB.out.cell (World.block_lt_of_cell? w _ hx298_1)).trans hx298_1
                            replace hx298_2 := (HB.out.cell (World.block_lt_of_cell? w _ hx298_2)).trans hx298_2
                            replace hx298_3 := (HB.out.cell (World.block_lt_of_cell? w _ hx298_3)).trans hx298_3
                            have HR298_2 := Aside0.mk hi298_2
                            have HC298_2 := Aside0.mk hl298_2
                            clear hi298_2 hl298_2
                            have HR298_3 := Aside0.mk hi298_3
                            have HC298_3 := Aside0.mk hl298_3
                            clear hi298_3 hl298_3
                            replace p298 := eq_true p298
                            replace q298 := eq_true q298
                            go_wp2_with (first | ((with_reducible refine gate_dst (N := 8) rfl ?_); refine box_event ?hg (N := 8) ?hd (cs := #[.int .i64 0, .int .i64 0, .slice none 0 0, .slice none 0 0]) (t := 70) ?hr ?_; (case hd => rfl); (case hg => rfl); (case hr => first | (go_simp; done) | (go_simp; rfl)); intro gb299 hg w31 hbox hb; have n0_ := Aside0.mk (blk_below (g := gb296) (o := .cells #[.int .i64 ((rd_T70 l0 x11_1).f0), .int .i64 ((rd_T70 l0 x11_1).f1), .slice A295_2 ((rd_T70 l0 x11_1).f2).length c295_2, .slice A295_3 ((rd_T70 l0 x11_1).f3).length c295_3] 70 (0, 0)) (by (with_reducible repeat (first | refine blk_drewN ?_ _ | refine blk_drew ?_ | refine blk_alloc ?_ _)); exact BK296.out) hb); have n1_ := Aside0.mk (below_step (by repeat (first | (with_reducible first | exact HB.out | apply below_alloc | apply pw_below_drewN | apply below_drew1 | refine below_set ?_ GE296.out) | exact HB.out)) hb); have n2_ := Aside0.mk (hbox); have n3_ := Aside0.mk ((by rw [hg]; exact (below_size (by repeat (first | (with_reducible first | exact HB.out | apply below_alloc | apply pw_below_drewN | apply below_drew1 | refine below_set ?_ GE296.out) | exact HB.out))) : w.heap.size ≤ gb299)); have n4_ := Aside0.mk ((by rw [hg]; exact (below_size (by repeat (first | (with_reducible first | exact HB.out | apply below_alloc | apply pw_below_drewN | apply below_drew1 | refine below_set ?_ GE296.out) | exact HB.out))) : w.heap.size ≤ gb299)); have n5_ := Aside0.mk ((by rw [hg]; exact Nat.ne_of_lt (blk_lt (g := gb296) (o := .cells #[.int .i64 ((rd_T70 l0 x11_1).f0), .int .i64 ((rd_T70 l0 x11_1).f1), .slice A295_2 ((rd_T70 l0 x11_1).f2).length c295_2, .slice A295_3 ((rd_T70 l0 x11_1).f3).length c295_3] 70 (0, 0)) (by (with_reducible repeat (first | refine blk_drewN ?_ _ | refine blk_drew ?_ | refine blk_alloc ?_ _)); exact BK296.out)) : gb296 ≠ gb299)); have n6_ := Aside0.mk ((by rw [hg]; exact Nat.ne_of_gt (blk_lt (g := gb296) (o := .cells #[.int .i64 ((rd_T70 l0 x11_1).f0), .int .i64 ((rd_T70 l0 x11_1).f1), .slice A295_2 ((rd_T70 l0 x11_1).f2).length c295_2, .slice A295_3 ((rd_T70 l0 x11_1).f3).length c295_3] 70 (0, 0)) (by (with_reducible repeat (first | refine blk_drewN ?_ _ | refine blk_drew ?_ | refine blk_alloc ?_ _)); exact BK296.out)) : gb299 ≠ gb296)); clear BK296; clear HB; have BK296 := n0_; have HB := n1_; have BK299 := n2_; have GW299 := n3_; have GE299 := n4_; have NB296_299 := n5_; have NB299_296 := n6_; clear n0_ n1_ n2_ n3_ n4_ n5_ n6_; clear hb hbox hg; have hnb32 := NB299_296.out; have hnc32 := NB296_299.out; have hcz33_0 : w31.cell? ⟨gb299, 0, none⟩ = some (.int .i64 0) := (blk_cell BK299.out 0).trans rfl; have hcz33_1 : w31.cell? ⟨gb299, 1, none⟩ = some (.int .i64 0) := (blk_cell BK299.out 1).trans rfl; have hcz33_2 : w31.cell? ⟨gb299, 2, none⟩ = some (.slice none 0 0) := (blk_cell BK299.out 2).trans rfl; have hcz33_3 : w31.cell? ⟨gb299, 3, none⟩ = some (.slice none 0 0) := (blk_cell BK299.out 3).trans rfl; have hfz33_0 := blk_frozen BK299.out 0; have hfz33_1 := blk_frozen BK299.out 1; have hfz33_2 := blk_frozen BK299.out 2; have hfz33_3 := blk_frozen BK299.out 3; have hcz34_0 : w31.cell? ⟨gb296, 0, none⟩ = some (.int .i64 ((rd_T70 l0 x11_1).f0)) := (blk_cell BK296.out 0).trans rfl; have hcz34_1 : w31.cell? ⟨gb296, 1, none⟩ = some (.int .i64 ((rd_T70 l0 x11_1).f1)) := (blk_cell BK296.out 1).trans rfl; have hcz34_2 : w31.cell? ⟨gb296, 2, none⟩ = some (.slice A295_2 ((rd_T70 l0 x11_1).f2).length c295_2) := (blk_cell BK296.out 2).trans rfl; have hcz34_3 : w31.cell? ⟨gb296, 3, none⟩ = some (.slice A295_3 ((rd_T70 l0 x11_1).f3).length c295_3) := (blk_cell BK296.out 3).trans rfl; have hfz34_0 := blk_frozen BK296.out 0; have hfz34_1 := blk_frozen BK296.out 1; have hfz34_2 := blk_frozen BK296.out 2; have hfz34_3 := blk_frozen BK296.out 3))
                            go_meet
                            case rel => exact ⟨_, H', ⟨by have := HK1.out; first | omega | exact Nat.le_refl _⟩, ⟨by (with_reducible repeat (first | refine blk_drewN ?_ _ | refine blk_drew ?_ | refine blk_alloc ?_ _)); refine blk_far ?_ NB296_299.out _; (with_reducible repeat (first | refine blk_drewN ?_ _ | refine blk_drew ?_ | refine blk_alloc ?_ _)); refine blk_far ?_ NB296_299.out _; (with_reducible repeat (first | refine blk_drewN ?_ _ | refine blk_drew ?_ | refine blk_alloc ?_ _)); refine blk_far ?_ NB296_299.out _; (with_reducible repeat (first | refine blk_drewN ?_ _ | refine blk_drew ?_ | refine blk_alloc ?_ _)); refine blk_far ?_ NB296_299.out _; (with_reducible repeat (first | refine blk_drewN ?_ _ | refine blk_drew ?_ | refine blk_alloc ?_ _)); exact BK296.out⟩, ⟨by repeat (first | (with_reducible first | exact HB.out | apply below_alloc | apply pw_below_drewN | apply below_drew1 | refine below_set ?_ GE296.out | refine below_set ?_ GE299.out) | exact HB.out)⟩⟩
                        · rw [if_neg c25] at H
                          have c25b0 : (((rd_T70 l0 x11_1).f0) == 2) = false := beq_eq_false_iff_ne.mpr c25
                          have c25b1 : (((rd_T70 l0 x11_1).f0) != 2) = true := bne_iff_ne.mpr c25
                          by_cases c35 : ((rd_T70 l0 (ji12)).f0) = 0
                          · rw [if_pos c35] at H
                            have c35b0 : (((rd_T70 l0 (ji12)).f0) == 0) = true := beq_iff_eq.mpr c35
                            have c35b1 : (((rd_T70 l0 (ji12)).f0) != 0) = false := bne_eq_false_iff_eq.mpr c35
                            clear c35
                            replace H := Option.bind_eq_some_iff.mp H
                            obtain ⟨t300, A360, H⟩ := H
                            replace H : (if t300 = true then (some 5) else (chanceryref1_DeltaError.j1 k1 l0 x3_1 x4_1 (l0.length : Int) x11_1 ((rd_T70 l0 x11_1).f0) ((rd_T70 l0 x11_1).f1) ((rd_T70 l0 x11_1).f2) ((rd_T70 l0 x11_1).f3))) = some r := H
                            have A36 := Aside0.mk A360
                            clear A360
                            by_cases c37 : t300 = true
                            · subst c37
                              have H1 : (some 5) = some r := by rw [if_pos rfl] at H; exact H
                              clear H
                              have H := H1
                              clear H1
                              obtain rfl := Option.some.inj H
                              have p298 : 0 ≤ ((ji12) : Int) := of_decide_eq_true (by first | (with_reducible assumption) | assumption)
                              have q298 : (ji12) < (l0.length : Int) := of_decide_eq_true (by first | (with_reducible assumption) | assumption)
                              obtain ⟨ad298, A298_2, c298_2, A298_3, c298_3, e298, hx298_0, hx298_1, hx298_2, hx298_3, hl298_2, hi298_2, hl298_3, hi298_3⟩ := at_T70 HR0.out (ji12) p298 q298
                              obtain rfl : ad295 = ad298 := (by injection e298)
                              replace hx298_0 := (HB.out.cell (World.block_lt_of_cell? w _ hx298_0)).trans hx298_0
                              replace hx298_1 := (HB.out.cell (World.block_lt_of_cell? w _ hx298_1)).trans hx298_1
                              replace hx298_2 := (HB.out.cell (World.block_lt_of_cell? w _ hx298_2)).trans hx298_2
                              replace hx298_3 := (HB.out.cell (World.block_lt_of_cell? w _ hx298_3)).trans hx298_3
                              have HR298_2 := Aside0.mk hi298_2
                              have HC298_2 := Aside0.mk hl298_2
                              clear hi298_2 hl298_2
                              have HR298_3 := Aside0.mk hi298_3
                              have HC298_3 := Aside0.mk hl298_3
                              clear hi298_3 hl298_3
                              replace p298 := eq_true p298
                              replace q298 := eq_true q298
                              go_wp2_with (first | ((with_reducible refine gate_dst (N := 8) rfl ?_); refine box_event ?hg (N := 8) ?hd (cs := #[.int .i64 0, .int .i64 0, .slice none 0 0, .slice none 0 0]) (t := 70) ?hr ?_; (case hd => rfl); (case hg => rfl); (case hr => first | (go_simp; done) | (go_simp; rfl)); intro gb299 hg w38 hbox hb; have n0_ := Aside0.mk (blk_below (g := gb296) (o := .cells #[.int .i64 ((rd_T70 l0 x11_1).f0), .int .i64 ((rd_T70 l0 x11_1).f1), .slice A295_2 ((rd_T70 l0 x11_1).f2).length c295_2, .slice A295_3 ((rd_T70 l0 x11_1).f3).length c295_3] 70 (0, 0)) (by (with_reducible repeat (first | refine blk_drewN ?_ _ | refine blk_drew ?_ | refine blk_alloc ?_ _)); exact BK296.out) hb); have n1_ := Aside0.mk (below_step (by repeat (first | (with_reducible first | exact HB.out | apply below_alloc | apply pw_below_drewN | apply below_drew1 | refine below_set ?_ GE296.out) | exact HB.out)) hb); have n2_ := Aside0.mk (hbox); have n3_ := Aside0.mk ((by rw [hg]; exact (below_size (by repeat (first | (with_reducible first | exact HB.out | apply below_alloc | apply pw_below_drewN | apply below_drew1 | refine below_set ?_ GE296.out) | exact HB.out))) : w.heap.size ≤ gb299)); have n4_ := Aside0.mk ((by rw [hg]; exact (below_size (by repeat (first | (with_reducible first | exact HB.out | apply below_alloc | apply pw_below_drewN | apply below_drew1 | refine below_set ?_ GE296.out) | exact HB.out))) : w.heap.size ≤ gb299)); have n5_ := Aside0.mk ((by rw [hg]; exact Nat.ne_of_lt (blk_lt (g := gb296) (o := .cells #[.int .i64 ((rd_T70 l0 x11_1).f0), .int .i64 ((rd_T70 l0 x11_1).f1), .slice A295_2 ((rd_T70 l0 x11_1).f2).length c295_2, .slice A295_3 ((rd_T70 l0 x11_1).f3).length c295_3] 70 (0, 0)) (by (with_reducible repeat (first | refine blk_drewN ?_ _ | refine blk_drew ?_ | refine blk_alloc ?_ _)); exact BK296.out)) : gb296 ≠ gb299)); have n6_ := Aside0.mk ((by rw [hg]; exact Nat.ne_of_gt (blk_lt (g := gb296) (o := .cells #[.int .i64 ((rd_T70 l0 x11_1).f0), .int .i64 ((rd_T70 l0 x11_1).f1), .slice A295_2 ((rd_T70 l0 x11_1).f2).length c295_2, .slice A295_3 ((rd_T70 l0 x11_1).f3).length c295_3] 70 (0, 0)) (by (with_reducible repeat (first | refine blk_drewN ?_ _ | refine blk_drew ?_ | refine blk_alloc ?_ _)); exact BK296.out)) : gb299 ≠ gb296)); clear BK296; clear HB; have BK296 := n0_; have HB := n1_; have BK299 := n2_; have GW299 := n3_; have GE299 := n4_; have NB296_299 := n5_; have NB299_296 := n6_; clear n0_ n1_ n2_ n3_ n4_ n5_ n6_; clear hb hbox hg; have hnb39 := NB299_296.out; have hnc39 := NB296_299.out; have hcz40_0 : w38.cell? ⟨gb299, 0, none⟩ = some (.int .i64 0) := (blk_cell BK299.out 0).trans rfl; have hcz40_1 : w38.cell? ⟨gb299, 1, none⟩ = some (.int .i64 0) := (blk_cell BK299.out 1).trans rfl; have hcz40_2 : w38.cell? ⟨gb299, 2, none⟩ = some (.slice none 0 0) := (blk_cell BK299.out 2).trans rfl; have hcz40_3 : w38.cell? ⟨gb299, 3, none⟩ = some (.slice none 0 0) := (blk_cell BK299.out 3).trans rfl; have hfz40_0 := blk_frozen BK299.out 0; have hfz40_1 := blk_frozen BK299.out 1; have hfz40_2 := blk_frozen BK299.out 2; have hfz40_3 := blk_frozen BK299.out 3; have hcz41_0 : w38.cell? ⟨gb296, 0, none⟩ = some (.int .i64 ((rd_T70 l0 x11_1).f0)) := (blk_cell BK296.out 0).trans rfl; have hcz41_1 : w38.cell? ⟨gb296, 1, none⟩ = some (.int .i64 ((rd_T70 l0 x11_1).f1)) := (blk_cell BK296.out 1).trans rfl; have hcz41_2 : w38.cell? ⟨gb296, 2, none⟩ = some (.slice A295_2 ((rd_T70 l0 x11_1).f2).length c295_2) := (blk_cell BK296.out 2).trans rfl; have hcz41_3 : w38.cell? ⟨gb296, 3, none⟩ = some (.slice A295_3 ((rd_T70 l0 x11_1).f3).length c295_3) := (blk_cell BK296.out 3).trans rfl; have hfz41_0 := blk_frozen BK296.out 0; have hfz41_1 := blk_frozen BK296.out 1; have hfz41_2 := blk_frozen BK296.out 2; have hfz41_3 := blk_frozen BK296.out 3) | (go_at_call 25; (with_reducible refine (chanceryref1_SameAttrs.calls k1 _ _ ((rd_T70 l0 (ji12)).f2) _ _ ((rd_T70 l0 x11_1).f2) true _ ?side1 ?side2 ?side3 ?side4 A36.out).mono ?_); (case side1 => exact Kd.C_below HR298_2.out (by repeat (first | (with_reducible first | exact HB.out | apply below_alloc | apply pw_below_drewN | apply below_drew1 | refine below_set ?_ GE296.out | refine below_set ?_ GE299.out) | exact HB.out))); (case side2 => exact HC298_2.out); (case side3 => exact Kd.C_below HR295_2.out (by repeat (first | (with_reducible first | exact HB.out | apply below_alloc | apply pw_below_drewN | apply below_drew1 | refine below_set ?_ GE296.out | refine below_set ?_ GE299.out) | exact HB.out))); (case side4 => exact HC295_2.out); rintro e w' ⟨rfl, ⟨nd, rfl⟩⟩))
                              go_ret
                              exact ⟨by first | rfl | (simp [errW_none, errW_some] <;> rfl) | (simp only [← hji12]; first | rfl | (simp [errW_none, errW_some] <;> rfl)) | (simp [*, errW_none, errW_some] <;> rfl), by repeat (first | (with_reducible first | exact HB.out | apply below_alloc | apply pw_below_drewN | apply below_drew1 | refine below_set ?_ GE296.out | refine below_set ?_ GE299.out) | exact HB.out)⟩
                            · replace c37 := Bool.eq_false_iff.mpr c37
                              subst c37
                              have H1 : (chanceryref1_DeltaError.j1 k1 l0 x3_1 x4_1 (l0.length : Int) x11_1 ((rd_T70 l0 x11_1).f0) ((rd_T70 l0 x11_1).f1) ((rd_T70 l0 x11_1).f2) ((rd_T70 l0 x11_1).f3)) = some r := by rw [if_neg (show ¬ (false = true) by decide)] at H; exact H
                              clear H
                              have H := H1
                              clear H1
                              have H' := Aside0.mk H
                              clear H
                              have p298 : 0 ≤ ((ji12) : Int) := of_decide_eq_true (by first | (with_reducible assumption) | assumption)
                              have q298 : (ji12) < (l0.length : Int) := of_decide_eq_true (by first | (with_reducible assumption) | assumption)
                              obtain ⟨ad298, A298_2, c298_2, A298_3, c298_3, e298, hx298_0, hx298_1, hx298_2, hx298_3, hl298_2, hi298_2, hl298_3, hi298_3⟩ := at_T70 HR0.out (ji12) p298 q298
                              obtain rfl : ad295 = ad298 := (by injection e298)
                              replace hx298_0 := (HB.out.cell (World.block_lt_of_cell? w _ hx298_0)).trans hx298_0
                              replace hx298_1 := (HB.out.cell (World.block_lt_of_cell? w _ hx298_1)).trans hx298_1
                              replace hx298_2 := (HB.out.cell (World.block_lt_of_cell? w _ hx298_2)).trans hx298_2
                              replace hx298_3 := (HB.out.cell (World.block_lt_of_cell? w _ hx298_3)).trans hx298_3
                              have HR298_2 := Aside0.mk hi298_2
                              have HC298_2 := Aside0.mk hl298_2
                              clear hi298_2 hl298_2
                              have HR298_3 := Aside0.mk hi298_3
                              have HC298_3 := Aside0.mk hl298_3
                              clear hi298_3 hl298_3
                              replace p298 := eq_true p298
                              replace q298 := eq_true q298
                              go_wp2_with (first | ((with_reducible refine gate_dst (N := 8) rfl ?_); refine box_event ?hg (N := 8) ?hd (cs := #[.int .i64 0, .int .i64 0, .slice none 0 0, .slice none 0 0]) (t := 70) ?hr ?_; (case hd => rfl); (case hg => rfl); (case hr => first | (go_simp; done) | (go_simp; rfl)); intro gb299 hg w42 hbox hb; have n0_ := Aside0.mk (blk_below (g := gb296) (o := .cells #[.int .i64 ((rd_T70 l0 x11_1).f0), .int .i64 ((rd_T70 l0 x11_1).f1), .slice A295_2 ((rd_T70 l0 x11_1).f2).length c295_2, .slice A295_3 ((rd_T70 l0 x11_1).f3).length c295_3] 70 (0, 0)) (by (with_reducible repeat (first | refine blk_drewN ?_ _ | refine blk_drew ?_ | refine blk_alloc ?_ _)); exact BK296.out) hb); have n1_ := Aside0.mk (below_step (by repeat (first | (with_reducible first | exact HB.out | apply below_alloc | apply pw_below_drewN | apply below_drew1 | refine below_set ?_ GE296.out) | exact HB.out)) hb); have n2_ := Aside0.mk (hbox); have n3_ := Aside0.mk ((by rw [hg]; exact (below_size (by repeat (first | (with_reducible first | exact HB.out | apply below_alloc | apply pw_below_drewN | apply below_drew1 | refine below_set ?_ GE296.out) | exact HB.out))) : w.heap.size ≤ gb299)); have n4_ := Aside0.mk ((by rw [hg]; exact (below_size (by repeat (first | (with_reducible first | exact HB.out | apply below_alloc | apply pw_below_drewN | apply below_drew1 | refine below_set ?_ GE296.out) | exact HB.out))) : w.heap.size ≤ gb299)); have n5_ := Aside0.mk ((by rw [hg]; exact Nat.ne_of_lt (blk_lt (g := gb296) (o := .cells #[.int .i64 ((rd_T70 l0 x11_1).f0), .int .i64 ((rd_T70 l0 x11_1).f1), .slice A295_2 ((rd_T70 l0 x11_1).f2).length c295_2, .slice A295_3 ((rd_T70 l0 x11_1).f3).length c295_3] 70 (0, 0)) (by (with_reducible repeat (first | refine blk_drewN ?_ _ | refine blk_drew ?_ | refine blk_alloc ?_ _)); exact BK296.out)) : gb296 ≠ gb299)); have n6_ := Aside0.mk ((by rw [hg]; exact Nat.ne_of_gt (blk_lt (g := gb296) (o := .cells #[.int .i64 ((rd_T70 l0 x11_1).f0), .int .i64 ((rd_T70 l0 x11_1).f1), .slice A295_2 ((rd_T70 l0 x11_1).f2).length c295_2, .slice A295_3 ((rd_T70 l0 x11_1).f3).length c295_3] 70 (0, 0)) (by (with_reducible repeat (first | refine blk_drewN ?_ _ | refine blk_drew ?_ | refine blk_alloc ?_ _)); exact BK296.out)) : gb299 ≠ gb296)); clear BK296; clear HB; have BK296 := n0_; have HB := n1_; have BK299 := n2_; have GW299 := n3_; have GE299 := n4_; have NB296_299 := n5_; have NB299_296 := n6_; clear n0_ n1_ n2_ n3_ n4_ n5_ n6_; clear hb hbox hg; have hnb43 := NB299_296.out; have hnc43 := NB296_299.out; have hcz44_0 : w42.cell? ⟨gb299, 0, none⟩ = some (.int .i64 0) := (blk_cell BK299.out 0).trans rfl; have hcz44_1 : w42.cell? ⟨gb299, 1, none⟩ = some (.int .i64 0) := (blk_cell BK299.out 1).trans rfl; have hcz44_2 : w42.cell? ⟨gb299, 2, none⟩ = some (.slice none 0 0) := (blk_cell BK299.out 2).trans rfl; have hcz44_3 : w42.cell? ⟨gb299, 3, none⟩ = some (.slice none 0 0) := (blk_cell BK299.out 3).trans rfl; have hfz44_0 := blk_frozen BK299.out 0; have hfz44_1 := blk_frozen BK299.out 1; have hfz44_2 := blk_frozen BK299.out 2; have hfz44_3 := blk_frozen BK299.out 3; have hcz45_0 : w42.cell? ⟨gb296, 0, none⟩ = some (.int .i64 ((rd_T70 l0 x11_1).f0)) := (blk_cell BK296.out 0).trans rfl; have hcz45_1 : w42.cell? ⟨gb296, 1, none⟩ = some (.int .i64 ((rd_T70 l0 x11_1).f1)) := (blk_cell BK296.out 1).trans rfl; have hcz45_2 : w42.cell? ⟨gb296, 2, none⟩ = some (.slice A295_2 ((rd_T70 l0 x11_1).f2).length c295_2) := (blk_cell BK296.out 2).trans rfl; have hcz45_3 : w42.cell? ⟨gb296, 3, none⟩ = some (.slice A295_3 ((rd_T70 l0 x11_1).f3).length c295_3) := (blk_cell BK296.out 3).trans rfl; have hfz45_0 := blk_frozen BK296.out 0; have hfz45_1 := blk_frozen BK296.out 1; have hfz45_2 := blk_frozen BK296.out 2; have hfz45_3 := blk_frozen BK296.out 3) | (go_at_call 25; (with_reducible refine (chanceryref1_SameAttrs.calls k1 _ _ ((rd_T70 l0 (ji12)).f2) _ _ ((rd_T70 l0 x11_1).f2) false _ ?side1 ?side2 ?side3 ?side4 A36.out).mono ?_); (case side1 => exact Kd.C_below HR298_2.out (by repeat (first | (with_reducible first | exact HB.out | apply below_alloc | apply pw_below_drewN | apply below_drew1 | refine below_set ?_ GE296.out | refine below_set ?_ GE299.out) | exact HB.out))); (case side2 => exact HC298_2.out); (case side3 => exact Kd.C_below HR295_2.out (by repeat (first | (with_reducible first | exact HB.out | apply below_alloc | apply pw_below_drewN | apply below_drew1 | refine below_set ?_ GE296.out | refine below_set ?_ GE299.out) | exact HB.out))); (case side4 => exact HC295_2.out); rintro e w' ⟨rfl, ⟨nd, rfl⟩⟩))
                              go_meet
                              case rel => exact ⟨_, H', ⟨by have := HK1.out; first | omega | exact Nat.le_refl _⟩, ⟨by (with_reducible repeat (first | refine blk_drewN ?_ _ | refine blk_drew ?_ | refine blk_alloc ?_ _)); refine blk_far ?_ NB296_299.out _; (with_reducible repeat (first | refine blk_drewN ?_ _ | refine blk_drew ?_ | refine blk_alloc ?_ _)); refine blk_far ?_ NB296_299.out _; (with_reducible repeat (first | refine blk_drewN ?_ _ | refine blk_drew ?_ | refine blk_alloc ?_ _)); refine blk_far ?_ NB296_299.out _; (with_reducible repeat (first | refine blk_drewN ?_ _ | refine blk_drew ?_ | refine blk_alloc ?_ _)); refine blk_far ?_ NB296_299.out _; (with_reducible repeat (first | refine blk_drewN ?_ _ | refine blk_drew ?_ | refine blk_alloc ?_ _)); exact BK296.out⟩, ⟨by repeat (first | (with_reducible first | exact HB.out | apply below_alloc | apply pw_below_drewN | apply below_drew1 | refine below_set ?_ GE296.out | refine below_set ?_ GE299.out) | exact HB.out)⟩⟩
                          · rw [if_neg c35] at H
                            have c35b0 : (((rd_T70 l0 (ji12)).f0) == 0) = false := beq_eq_false_iff_ne.mpr c35
                            have c35b1 : (((rd_T70 l0 (ji12)).f0) != 0) = true := bne_iff_ne.mpr c35
                            have H' := Aside0.mk H
                            clear H
                            have p298 : 0 ≤ ((ji12) : Int) := of_decide_eq_true (by first | (with_reducible assumption) | assumption)
                            have q298 : (ji12) < (l0.length : Int) := of_decide_eq_true (by first | (with_reducible assumption) | assumption)
                            obtain ⟨ad298, A298_2, c298_2, A298_3, c298_3, e298, hx298_0, hx298_1, hx298_2, hx298_3, hl298_2, hi298_2, hl298_3, hi298_3⟩ := at_T70 HR0.out (ji12) p298 q298
                            obtain rfl : ad295 = ad298 := (by injection e298)
                            replace hx298_0 := (HB.out.cell (World.block_lt_of_cell? w _ hx298_0)).trans hx298_0
                            replace hx298_1 := (HB.out.cell (World.block_lt_of_cell? w _ hx298_1)).trans hx298_1
                            replace hx298_2 := (HB.out.cell (World.block_lt_of_cell? w _ hx298_2)).trans hx298_2
                            replace hx298_3 := (HB.out.cell (World.block_lt_of_cell? w _ hx298_3)).trans hx298_3
                            have HR298_2 := Aside0.mk hi298_2
                            have HC298_2 := Aside0.mk hl298_2
                            clear hi298_2 hl298_2
                            have HR298_3 := Aside0.mk hi298_3
                            have HC298_3 := Aside0.mk hl298_3
                            clear hi298_3 hl298_3
                            replace p298 := eq_true p298
                            replace q298 := eq_true q298
                            go_wp2_with (first | ((with_reducible refine gate_dst (N := 8) rfl ?_); refine box_event ?hg (N := 8) ?hd (cs := #[.int .i64 0, .int .i64 0, .slice none 0 0, .slice none 0 0]) (t := 70) ?hr ?_; (case hd => rfl); (case hg => rfl); (case hr => first | (go_simp; done) | (go_simp; rfl)); intro gb299 hg w46 hbox hb; have n0_ := Aside0.mk (blk_below (g := gb296) (o := .cells #[.int .i64 ((rd_T70 l0 x11_1).f0), .int .i64 ((rd_T70 l0 x11_1).f1), .slice A295_2 ((rd_T70 l0 x11_1).f2).length c295_2, .slice A295_3 ((rd_T70 l0 x11_1).f3).length c295_3] 70 (0, 0)) (by (with_reducible repeat (first | refine blk_drewN ?_ _ | refine blk_drew ?_ | refine blk_alloc ?_ _)); exact BK296.out) hb); have n1_ := Aside0.mk (below_step (by repeat (first | (with_reducible first | exact HB.out | apply below_alloc | apply pw_below_drewN | apply below_drew1 | refine below_set ?_ GE296.out) | exact HB.out)) hb); have n2_ := Aside0.mk (hbox); have n3_ := Aside0.mk ((by rw [hg]; exact (below_size (by repeat (first | (with_reducible first | exact HB.out | apply below_alloc | apply pw_below_drewN | apply below_drew1 | refine below_set ?_ GE296.out) | exact HB.out))) : w.heap.size ≤ gb299)); have n4_ := Aside0.mk ((by rw [hg]; exact (below_size (by repeat (first | (with_reducible first | exact HB.out | apply below_alloc | apply pw_below_drewN | apply below_drew1 | refine below_set ?_ GE296.out) | exact HB.out))) : w.heap.size ≤ gb299)); have n5_ := Aside0.mk ((by rw [hg]; exact Nat.ne_of_lt (blk_lt (g := gb296) (o := .cells #[.int .i64 ((rd_T70 l0 x11_1).f0), .int .i64 ((rd_T70 l0 x11_1).f1), .slice A295_2 ((rd_T70 l0 x11_1).f2).length c295_2, .slice A295_3 ((rd_T70 l0 x11_1).f3).length c295_3] 70 (0, 0)) (by (with_reducible repeat (first | refine blk_drewN ?_ _ | refine blk_drew ?_ | refine blk_alloc ?_ _)); exact BK296.out)) : gb296 ≠ gb299)); have n6_ := Aside0.mk ((by rw [hg]; exact Nat.ne_of_gt (blk_lt (g := gb296) (o := .cells #[.int .i64 ((rd_T70 l0 x11_1).f0), .int .i64 ((rd_T70 l0 x11_1).f1), .slice A295_2 ((rd_T70 l0 x11_1).f2).length c295_2, .slice A295_3 ((rd_T70 l0 x11_1).f3).length c295_3] 70 (0, 0)) (by (with_reducible repeat (first | refine blk_drewN ?_ _ | refine blk_drew ?_ | refine blk_alloc ?_ _)); exact BK296.out)) : gb299 ≠ gb296)); clear BK296; clear HB; have BK296 := n0_; have HB := n1_; have BK299 := n2_; have GW299 := n3_; have GE299 := n4_; have NB296_299 := n5_; have NB299_296 := n6_; clear n0_ n1_ n2_ n3_ n4_ n5_ n6_; clear hb hbox hg; have hnb47 := NB299_296.out; have hnc47 := NB296_299.out; have hcz48_0 : w46.cell? ⟨gb299, 0, none⟩ = some (.int .i64 0) := (blk_cell BK299.out 0).trans rfl; have hcz48_1 : w46.cell? ⟨gb299, 1, none⟩ = some (.int .i64 0) := (blk_cell BK299.out 1).trans rfl; have hcz48_2 : w46.cell? ⟨gb299, 2, none⟩ = some (.slice none 0 0) := (blk_cell BK299.out 2).trans rfl; have hcz48_3 : w46.cell? ⟨gb299, 3, none⟩ = some (.slice none 0 0) := (blk_cell BK299.out 3).trans rfl; have hfz48_0 := blk_frozen BK299.out 0; have hfz48_1 := blk_frozen BK299.out 1; have hfz48_2 := blk_frozen BK299.out 2; have hfz48_3 := blk_frozen BK299.out 3; have hcz49_0 : w46.cell? ⟨gb296, 0, none⟩ = some (.int .i64 ((rd_T70 l0 x11_1).f0)) := (blk_cell BK296.out 0).trans rfl; have hcz49_1 : w46.cell? ⟨gb296, 1, none⟩ = some (.int .i64 ((rd_T70 l0 x11_1).f1)) := (blk_cell BK296.out 1).trans rfl; have hcz49_2 : w46.cell? ⟨gb296, 2, none⟩ = some (.slice A295_2 ((rd_T70 l0 x11_1).f2).length c295_2) := (blk_cell BK296.out 2).trans rfl; have hcz49_3 : w46.cell? ⟨gb296, 3, none⟩ = some (.slice A295_3 ((rd_T70 l0 x11_1).f3).length c295_3) := (blk_cell BK296.out 3).trans rfl; have hfz49_0 := blk_frozen BK296.out 0; have hfz49_1 := blk_frozen BK296.out 1; have hfz49_2 := blk_frozen BK296.out 2; have hfz49_3 := blk_frozen BK296.out 3))
                            go_meet
                            case rel => exact ⟨_, H', ⟨by have := HK1.out; first | omega | exact Nat.le_refl _⟩, ⟨by (with_reducible repeat (first | refine blk_drewN ?_ _ | refine blk_drew ?_ | refine blk_alloc ?_ _)); refine blk_far ?_ NB296_299.out _; (with_reducible repeat (first | refine blk_drewN ?_ _ | refine blk_drew ?_ | refine blk_alloc ?_ _)); refine blk_far ?_ NB296_299.out _; (with_reducible repeat (first | refine blk_drewN ?_ _ | refine blk_drew ?_ | refine blk_alloc ?_ _)); refine blk_far ?_ NB296_299.out _; (with_reducible repeat (first | refine blk_drewN ?_ _ | refine blk_drew ?_ | refine blk_alloc ?_ _)); refine blk_far ?_ NB296_299.out _; (with_reducible repeat (first | refine blk_drewN ?_ _ | refine blk_drew ?_ | refine blk_alloc ?_ _)); exact BK296.out⟩, ⟨by repeat (first | (with_reducible first | exact HB.out | apply below_alloc | apply pw_below_drewN | apply below_drew1 | refine below_set ?_ GE296.out | refine below_set ?_ GE299.out) | exact HB.out)⟩⟩
                    · rw [if_neg c14] at H
                      exact absurd H (by simp)
                  · rw [if_neg c13] at H
                    exact absurd H (by simp)
                · rw [if_neg c11] at H
                  have c11b0 : decide (0 < x11_1) = false := decide_eq_false c11
                  clear c11
                  (first | rw [c11b0] | (simp only [i64_w, i32_w]; rw [c11b0]) | skip)
                  have H' := Aside0.mk H
                  clear H
                  go_wp2
                  go_meet
                  case rel => exact ⟨_, H', ⟨by have := HK1.out; first | omega | exact Nat.le_refl _⟩, ⟨by (with_reducible repeat (first | refine blk_drewN ?_ _ | refine blk_drew ?_ | refine blk_alloc ?_ _)); exact BK296.out⟩, ⟨by repeat (first | (with_reducible first | exact HB.out | apply below_alloc | apply pw_below_drewN | apply below_drew1 | refine below_set ?_ GE296.out) | exact HB.out)⟩⟩
              case rest =>
                clear HC7
                try clear c1
                try clear c2
                try clear c2b0
                try clear p2
                try clear q2
                try clear hx2
                try clear c3
                try clear c3b0
                try clear c4
                try clear c4b0
                try clear c6
                try clear c6b0
                try clear c6b1
                try clear p6
                try clear c8
                try clear c11
                try clear c11b0
                try clear c13
                try clear c13b0
                try clear c14
                try clear c14b0
                try clear c15
                try clear c15b0
                try clear c15b1
                try clear c16
                try clear c16b0
                try clear c16b1
                try clear c18
                try clear c22
                try clear c25
                try clear c25b0
                try clear c25b1
                try clear c26
                try clear c26b0
                try clear c26b1
                try clear c28
                try clear c29
                try clear p29
                try clear q29
                try clear hx29
                try clear c32
                try clear c35
                try clear c35b0
                try clear c35b1
                try clear c37
                try clear c39
                try clear c43
                try clear c46
                try clear c47
                try clear hcz19_0
                try clear hcz19_1
                try clear hcz19_2
                try clear hcz19_3
                try clear hcz20_0
                try clear hcz20_1
                try clear hcz20_2
                try clear hcz20_3
                try clear hcz23_0
                try clear hcz23_1
                try clear hcz23_2
                try clear hcz23_3
                try clear hcz24_0
                try clear hcz24_1
                try clear hcz24_2
                try clear hcz24_3
                try clear hcz29_0
                try clear hcz29_1
                try clear hcz29_2
                try clear hcz29_3
                try clear hcz30_0
                try clear hcz30_1
                try clear hcz30_2
                try clear hcz30_3
                try clear hcz33_0
                try clear hcz33_1
                try clear hcz33_2
                try clear hcz33_3
                try clear hcz34_0
                try clear hcz34_1
                try clear hcz34_2
                try clear hcz34_3
                try clear hcz40_0
                try clear hcz40_1
                try clear hcz40_2
                try clear hcz40_3
                try clear hcz41_0
                try clear hcz41_1
                try clear hcz41_2
                try clear hcz41_3
                try clear hcz44_0
                try clear hcz44_1
                try clear hcz44_2
                try clear hcz44_3
                try clear hcz45_0
                try clear hcz45_1
                try clear hcz45_2
                try clear hcz45_3
                try clear hcz48_0
                try clear hcz48_1
                try clear hcz48_2
                try clear hcz48_3
                try clear hcz49_0
                try clear hcz49_1
                try clear hcz49_2
                try clear hcz49_3
                try clear hcz9_0
                try clear hcz9_1
                try clear hcz9_2
                try clear hcz9_3
                try clear hfz19_0
                try clear hfz19_1
                try clear hfz19_2
                try clear hfz19_3
                try clear hfz20_0
                try clear hfz20_1
                try clear hfz20_2
                try clear hfz20_3
                try clear hfz23_0
                try clear hfz23_1
                try clear hfz23_2
                try clear hfz23_3
                try clear hfz24_0
                try clear hfz24_1
                try clear hfz24_2
                try clear hfz24_3
                try clear hfz29_0
                try clear hfz29_1
                try clear hfz29_2
                try clear hfz29_3
                try clear hfz30_0
                try clear hfz30_1
                try clear hfz30_2
                try clear hfz30_3
                try clear hfz33_0
                try clear hfz33_1
                try clear hfz33_2
                try clear hfz33_3
                try clear hfz34_0
                try clear hfz34_1
                try clear hfz34_2
                try clear hfz34_3
                try clear hfz40_0
                try clear hfz40_1
                try clear hfz40_2
                try clear hfz40_3
                try clear hfz41_0
                try clear hfz41_1
                try clear hfz41_2
                try clear hfz41_3
                try clear hfz44_0
                try clear hfz44_1
                try clear hfz44_2
                try clear hfz44_3
                try clear hfz45_0
                try clear hfz45_1
                try clear hfz45_2
                try clear hfz45_3
                try clear hfz48_0
                try clear hfz48_1
                try clear hfz48_2
                try clear hfz48_3
                try clear hfz49_0
                try clear hfz49_1
                try clear hfz49_2
                try clear hfz49_3
                try clear hfz9_0
                try clear hfz9_1
                try clear hfz9_2
                try clear hfz9_3
                try clear hx295_0
                try clear hx295_1
                try clear hx295_2
                try clear hx295_3
                try clear hx298_0
                try clear hx298_1
                try clear hx298_2
                try clear hx298_3
                try clear p295
                try clear p298
                try clear q295
                try clear q298
                obtain ⟨kq, HA, HJ6, BK296, HB⟩ := hcut
                cases kq with
                | zero => exact absurd HA.out (by simp [chanceryref1_DeltaError.j1])
                | succ kj6 =>
                  have H := HA.out
                  clear HA
                  simp only [chanceryref1_DeltaError.j1] at H
                  have HC50 := Aside0.mk H
                  clear H
                  go_upto_region 20 with (fail)
                  go_cut [58] (fun v58 wc => ∃ (kq : Nat) (x58_49 : Bool), v58 = .bool x58_49 ∧ Aside0 (chanceryref1_DeltaError.j2 kq l0 x3_1 x4_1 (l0.length : Int) x11_1 x58_49 ((rd_T70 l0 x11_1).f0) ((rd_T70 l0 x11_1).f1) ((rd_T70 l0 x11_1).f2) ((rd_T70 l0 x11_1).f3) = some r) ∧ Aside0 (kq ≤ kj6) ∧ Aside0 (wc.heap[gb296]? = some (.cells #[.int .i64 ((rd_T70 l0 x11_1).f0), .int .i64 ((rd_T70 l0 x11_1).f1), (.slice A295_2 ((rd_T70 l0 x11_1).f2).length c295_2), (.slice A295_3 ((rd_T70 l0 x11_1).f3).length c295_3)] 70 (0, 0))) ∧ Aside0 (Below w.heap.size w wc))
                  case first =>
                    have H := HC50.out
                    clear HC50
                    by_cases c51 : ((rd_T70 l0 x11_1).f0) = 1
                    · rw [if_pos c51] at H
                      have c51b0 : (((rd_T70 l0 x11_1).f0) == 1) = true := beq_iff_eq.mpr c51
                      have c51b1 : (((rd_T70 l0 x11_1).f0) != 1) = false := bne_eq_false_iff_eq.mpr c51
                      clear c51
                      (first | rw [c51b0] | (simp only [i64_w, i32_w]; rw [c51b0]) | skip)
                      have H' := Aside0.mk H
                      clear H
                      have hcz52_0 : wc.cell? ⟨gb296, 0, none⟩ = some (.int .i64 ((rd_T70 l0 x11_1).f0)) := (blk_cell BK296.out 0).trans rfl
                      have hcz52_1 : wc.cell? ⟨gb296, 1, none⟩ = some (.int .i64 ((rd_T70 l0 x11_1).f1)) := (blk_cell BK296.out 1).trans rfl
                      have hcz52_2 : wc.cell? ⟨gb296, 2, none⟩ = some (.slice A295_2 ((rd_T70 l0 x11_1).f2).length c295_2) := (blk_cell BK296.out 2).trans rfl
                      have hcz52_3 : wc.cell? ⟨gb296, 3, none⟩ = some (.slice A295_3 ((rd_T70 l0 x11_1).f3).length c295_3) := (blk_cell BK296.out 3).trans rfl
                      have hfz52_0 := blk_frozen BK296.out 0
                      have hfz52_1 := blk_frozen BK296.out 1
                      have hfz52_2 := blk_frozen BK296.out 2
                      have hfz52_3 := blk_frozen BK296.out 3
                      go_wp2
                      go_meet
                      case rel => exact ⟨_, (false), (by first | rfl | (simp; done) | (simp [*]; done)), H', ⟨by have := HK1.out; have := HJ6.out; first | omega | exact Nat.le_refl _⟩, ⟨by (with_reducible repeat (first | refine blk_drewN ?_ _ | refine blk_drew ?_ | refine blk_alloc ?_ _)); exact BK296.out⟩, ⟨by repeat (first | (with_reducible first | exact HB.out | apply below_alloc | apply pw_below_drewN | apply below_drew1 | refine below_set ?_ GE296.out) | exact HB.out)⟩⟩
                    · rw [if_neg c51] at H
                      have c51b0 : (((rd_T70 l0 x11_1).f0) == 1) = false := beq_eq_false_iff_ne.mpr c51
                      have c51b1 : (((rd_T70 l0 x11_1).f0) != 1) = true := bne_iff_ne.mpr c51
                      (first | rw [c51b0] | (simp only [i64_w, i32_w]; rw [c51b0]) | skip)
                      have H' := Aside0.mk H
                      clear H
                      have hcz53_0 : wc.cell? ⟨gb296, 0, none⟩ = some (.int .i64 ((rd_T70 l0 x11_1).f0)) := (blk_cell BK296.out 0).trans rfl
                      have hcz53_1 : wc.cell? ⟨gb296, 1, none⟩ = some (.int .i64 ((rd_T70 l0 x11_1).f1)) := (blk_cell BK296.out 1).trans rfl
                      have hcz53_2 : wc.cell? ⟨gb296, 2, none⟩ = some (.slice A295_2 ((rd_T70 l0 x11_1).f2).length c295_2) := (blk_cell BK296.out 2).trans rfl
                      have hcz53_3 : wc.cell? ⟨gb296, 3, none⟩ = some (.slice A295_3 ((rd_T70 l0 x11_1).f3).length c295_3) := (blk_cell BK296.out 3).trans rfl
                      have hfz53_0 := blk_frozen BK296.out 0
                      have hfz53_1 := blk_frozen BK296.out 1
                      have hfz53_2 := blk_frozen BK296.out 2
                      have hfz53_3 := blk_frozen BK296.out 3
                      go_wp2
                      go_meet
                      case rel => exact ⟨_, (decide (x3_1 < 2147483648)), (by first | rfl | (simp; done) | (simp [*]; done)), H', ⟨by have := HK1.out; have := HJ6.out; first | omega | exact Nat.le_refl _⟩, ⟨by (with_reducible repeat (first | refine blk_drewN ?_ _ | refine blk_drew ?_ | refine blk_alloc ?_ _)); exact BK296.out⟩, ⟨by repeat (first | (with_reducible first | exact HB.out | apply below_alloc | apply pw_below_drewN | apply below_drew1 | refine below_set ?_ GE296.out) | exact HB.out)⟩⟩
                  case rest =>
                    clear HC50
                    try clear c1
                    try clear c2
                    try clear c2b0
                    try clear p2
                    try clear q2
                    try clear hx2
                    try clear c3
                    try clear c3b0
                    try clear c4
                    try clear c4b0
                    try clear c5
                    try clear c6
                    try clear c6b0
                    try clear c6b1
                    try clear p6
                    try clear c8
                    try clear c11
                    try clear c11b0
                    try clear c13
                    try clear c13b0
                    try clear c14
                    try clear c14b0
                    try clear c15
                    try clear c15b0
                    try clear c15b1
                    try clear c16
                    try clear c16b0
                    try clear c16b1
                    try clear c18
                    try clear c22
                    try clear c25
                    try clear c25b0
                    try clear c25b1
                    try clear c26
                    try clear c26b0
                    try clear c26b1
                    try clear c28
                    try clear c29
                    try clear p29
                    try clear q29
                    try clear hx29
                    try clear c32
                    try clear c35
                    try clear c35b0
                    try clear c35b1
                    try clear c37
                    try clear c39
                    try clear c43
                    try clear c46
                    try clear c47
                    try clear c51
                    try clear c51b0
                    try clear c51b1
                    try clear hcz19_0
                    try clear hcz19_1
                    try clear hcz19_2
                    try clear hcz19_3
                    try clear hcz20_0
                    try clear hcz20_1
                    try clear hcz20_2
                    try clear hcz20_3
                    try clear hcz23_0
                    try clear hcz23_1
                    try clear hcz23_2
                    try clear hcz23_3
                    try clear hcz24_0
                    try clear hcz24_1
                    try clear hcz24_2
                    try clear hcz24_3
                    try clear hcz29_0
                    try clear hcz29_1
                    try clear hcz29_2
                    try clear hcz29_3
                    try clear hcz30_0
                    try clear hcz30_1
                    try clear hcz30_2
                    try clear hcz30_3
                    try clear hcz33_0
                    try clear hcz33_1
                    try clear hcz33_2
                    try clear hcz33_3
                    try clear hcz34_0
                    try clear hcz34_1
                    try clear hcz34_2
                    try clear hcz34_3
                    try clear hcz40_0
                    try clear hcz40_1
                    try clear hcz40_2
                    try clear hcz40_3
                    try clear hcz41_0
                    try clear hcz41_1
                    try clear hcz41_2
                    try clear hcz41_3
                    try clear hcz44_0
                    try clear hcz44_1
                    try clear hcz44_2
                    try clear hcz44_3
                    try clear hcz45_0
                    try clear hcz45_1
                    try clear hcz45_2
                    try clear hcz45_3
                    try clear hcz48_0
                    try clear hcz48_1
                    try clear hcz48_2
                    try clear hcz48_3
                    try clear hcz49_0
                    try clear hcz49_1
                    try clear hcz49_2
                    try clear hcz49_3
                    try clear hcz52_0
                    try clear hcz52_1
                    try clear hcz52_2
                    try clear hcz52_3
                    try clear hcz53_0
                    try clear hcz53_1
                    try clear hcz53_2
                    try clear hcz53_3
                    try clear hcz9_0
                    try clear hcz9_1
                    try clear hcz9_2
                    try clear hcz9_3
                    try clear hfz19_0
                    try clear hfz19_1
                    try clear hfz19_2
                    try clear hfz19_3
                    try clear hfz20_0
                    try clear hfz20_1
                    try clear hfz20_2
                    try clear hfz20_3
                    try clear hfz23_0
                    try clear hfz23_1
                    try clear hfz23_2
                    try clear hfz23_3
                    try clear hfz24_0
                    try clear hfz24_1
                    try clear hfz24_2
                    try clear hfz24_3
                    try clear hfz29_0
                    try clear hfz29_1
                    try clear hfz29_2
                    try clear hfz29_3
                    try clear hfz30_0
                    try clear hfz30_1
                    try clear hfz30_2
                    try clear hfz30_3
                    try clear hfz33_0
                    try clear hfz33_1
                    try clear hfz33_2
                    try clear hfz33_3
                    try clear hfz34_0
                    try clear hfz34_1
                    try clear hfz34_2
                    try clear hfz34_3
                    try clear hfz40_0
                    try clear hfz40_1
                    try clear hfz40_2
                    try clear hfz40_3
                    try clear hfz41_0
                    try clear hfz41_1
                    try clear hfz41_2
                    try clear hfz41_3
                    try clear hfz44_0
                    try clear hfz44_1
                    try clear hfz44_2
                    try clear hfz44_3
                    try clear hfz45_0
                    try clear hfz45_1
                    try clear hfz45_2
                    try clear hfz45_3
                    try clear hfz48_0
                    try clear hfz48_1
                    try clear hfz48_2
                    try clear hfz48_3
                    try clear hfz49_0
                    try clear hfz49_1
                    try clear hfz49_2
                    try clear hfz49_3
                    try clear hfz52_0
                    try clear hfz52_1
                    try clear hfz52_2
                    try clear hfz52_3
                    try clear hfz53_0
                    try clear hfz53_1
                    try clear hfz53_2
                    try clear hfz53_3
                    try clear hfz9_0
                    try clear hfz9_1
                    try clear hfz9_2
                    try clear hfz9_3
                    try clear hx295_0
                    try clear hx295_1
                    try clear hx295_2
                    try clear hx295_3
                    try clear hx298_0
                    try clear hx298_1
                    try clear hx298_2
                    try clear hx298_3
                    try clear p2
                    try clear p29
                    try clear p295
                    try clear p298
                    try clear p6
                    try clear q2
                    try clear q29
                    try clear q295
                    try clear q298
                    obtain ⟨kq, x58_49, rfl, HA, HJ49, BK296, HB⟩ := hcut
                    cases kq with
                    | zero => exact absurd HA.out (by simp [chanceryref1_DeltaError.j2])
                    | succ kj49 =>
                      have H := HA.out
                      clear HA
                      simp only [chanceryref1_DeltaError.j2] at H
                      by_cases c54 : x58_49 = true
                      · subst c54
                        have H1 : (if ((rd_T70 l0 x11_1).f0) = 2 then (chanceryref1_DeltaError.l0 kj49 l0 (wrap64 (x3_1 + ((rd_T70 l0 x11_1).f1))) x4_1 (l0.length : Int) (wrap64 (x11_1 + 1))) else (if x4_1 < 2147483648 then (chanceryref1_DeltaError.l0 kj49 l0 (wrap64 (x3_1 + ((rd_T70 l0 x11_1).f1))) (wrap64 (x4_1 + (wrap64 (((rd_T70 l0 x11_1).f1) + (((rd_T70 l0 x11_1).f3).length : Int))))) (l0.length : Int) (wrap64 (x11_1 + 1))) else (chanceryref1_DeltaError.l0 kj49 l0 (wrap64 (x3_1 + ((rd_T70 l0 x11_1).f1))) x4_1 (l0.length : Int) (wrap64 (x11_1 + 1))))) = some r := by rw [if_pos rfl] at H; exact H
                        clear H
                        have H := H1
                        clear H1
                        by_cases c55 : ((rd_T70 l0 x11_1).f0) = 2
                        · rw [if_pos c55] at H
                          have c55b0 : (((rd_T70 l0 x11_1).f0) == 2) = true := beq_iff_eq.mpr c55
                          have c55b1 : (((rd_T70 l0 x11_1).f0) != 2) = false := bne_eq_false_iff_eq.mpr c55
                          clear c55
                          have H' := Aside0.mk H
                          clear H
                          have hcz56_0 : wc.cell? ⟨gb296, 0, none⟩ = some (.int .i64 ((rd_T70 l0 x11_1).f0)) := (blk_cell BK296.out 0).trans rfl
                          have hcz56_1 : wc.cell? ⟨gb296, 1, none⟩ = some (.int .i64 ((rd_T70 l0 x11_1).f1)) := (blk_cell BK296.out 1).trans rfl
                          have hcz56_2 : wc.cell? ⟨gb296, 2, none⟩ = some (.slice A295_2 ((rd_T70 l0 x11_1).f2).length c295_2) := (blk_cell BK296.out 2).trans rfl
                          have hcz56_3 : wc.cell? ⟨gb296, 3, none⟩ = some (.slice A295_3 ((rd_T70 l0 x11_1).f3).length c295_3) := (blk_cell BK296.out 3).trans rfl
                          have hfz56_0 := blk_frozen BK296.out 0
                          have hfz56_1 := blk_frozen BK296.out 1
                          have hfz56_2 := blk_frozen BK296.out 2
                          have hfz56_3 := blk_frozen BK296.out 3
                          go_wp2
                          go_roundg kj49
                          case measure => have := HK1.out; have := HJ6.out; have := HJ49.out; omega
                          case rel => exact ⟨(wrap64 (x3_1 + ((rd_T70 l0 x11_1).f1))), (x4_1), (wrap64 (x11_1 + 1)), (by first | rfl | (simp; done) | (simp [*]; done)), (by first | rfl | (simp; done) | (simp [*]; done)), (by first | rfl | (simp; done) | (simp [*]; done)), H', ⟨by have := HK1.out; have := HJ6.out; have := HJ49.out; omega⟩, ⟨by repeat (first | (with_reducible first | exact HB.out | apply below_alloc | apply pw_below_drewN | apply below_drew1 | refine below_set ?_ GE296.out) | exact HB.out)⟩⟩
                        · rw [if_neg c55] at H
                          have c55b0 : (((rd_T70 l0 x11_1).f0) == 2) = false := beq_eq_false_iff_ne.mpr c55
                          have c55b1 : (((rd_T70 l0 x11_1).f0) != 2) = true := bne_iff_ne.mpr c55
                          by_cases c57 : x4_1 < 2147483648
                          · rw [if_pos c57] at H
                            have c57b0 : decide (x4_1 < 2147483648) = true := decide_eq_true c57
                            clear c57
                            have H' := Aside0.mk H
                            clear H
                            have hcz58_0 : wc.cell? ⟨gb296, 0, none⟩ = some (.int .i64 ((rd_T70 l0 x11_1).f0)) := (blk_cell BK296.out 0).trans rfl
                            have hcz58_1 : wc.cell? ⟨gb296, 1, none⟩ = some (.int .i64 ((rd_T70 l0 x11_1).f1)) := (blk_cell BK296.out 1).trans rfl
                            have hcz58_2 : wc.cell? ⟨gb296, 2, none⟩ = some (.slice A295_2 ((rd_T70 l0 x11_1).f2).length c295_2) := (blk_cell BK296.out 2).trans rfl
                            have hcz58_3 : wc.cell? ⟨gb296, 3, none⟩ = some (.slice A295_3 ((rd_T70 l0 x11_1).f3).length c295_3) := (blk_cell BK296.out 3).trans rfl
                            have hfz58_0 := blk_frozen BK296.out 0
                            have hfz58_1 := blk_frozen BK296.out 1
                            have hfz58_2 := blk_frozen BK296.out 2
                            have hfz58_3 := blk_frozen BK296.out 3
                            go_wp2
                            go_roundg kj49
                            case measure => have := HK1.out; have := HJ6.out; have := HJ49.out; omega
                            case rel => exact ⟨(wrap64 (x3_1 + ((rd_T70 l0 x11_1).f1))), (wrap64 (x4_1 + (wrap64 (((rd_T70 l0 x11_1).f1) + (((rd_T70 l0 x11_1).f3).length : Int))))), (wrap64 (x11_1 + 1)), (by first | rfl | (simp; done) | (simp [*]; done)), (by first | rfl | (simp; done) | (simp [*]; done)), (by first | rfl | (simp; done) | (simp [*]; done)), H', ⟨by have := HK1.out; have := HJ6.out; have := HJ49.out; omega⟩, ⟨by repeat (first | (with_reducible first | exact HB.out | apply below_alloc | apply pw_below_drewN | apply below_drew1 | refine below_set ?_ GE296.out) | exact HB.out)⟩⟩
                          · rw [if_neg c57] at H
                            have c57b0 : decide (x4_1 < 2147483648) = false := decide_eq_false c57
                            clear c57
                            have H' := Aside0.mk H
                            clear H
                            have hcz59_0 : wc.cell? ⟨gb296, 0, none⟩ = some (.int .i64 ((rd_T70 l0 x11_1).f0)) := (blk_cell BK296.out 0).trans rfl
                            have hcz59_1 : wc.cell? ⟨gb296, 1, none⟩ = some (.int .i64 ((rd_T70 l0 x11_1).f1)) := (blk_cell BK296.out 1).trans rfl
                            have hcz59_2 : wc.cell? ⟨gb296, 2, none⟩ = some (.slice A295_2 ((rd_T70 l0 x11_1).f2).length c295_2) := (blk_cell BK296.out 2).trans rfl
                            have hcz59_3 : wc.cell? ⟨gb296, 3, none⟩ = some (.slice A295_3 ((rd_T70 l0 x11_1).f3).length c295_3) := (blk_cell BK296.out 3).trans rfl
                            have hfz59_0 := blk_frozen BK296.out 0
                            have hfz59_1 := blk_frozen BK296.out 1
                            have hfz59_2 := blk_frozen BK296.out 2
                            have hfz59_3 := blk_frozen BK296.out 3
                            go_wp2
                            go_roundg kj49
                            case measure => have := HK1.out; have := HJ6.out; have := HJ49.out; omega
                            case rel => exact ⟨(wrap64 (x3_1 + ((rd_T70 l0 x11_1).f1))), (x4_1), (wrap64 (x11_1 + 1)), (by first | rfl | (simp; done) | (simp [*]; done)), (by first | rfl | (simp; done) | (simp [*]; done)), (by first | rfl | (simp; done) | (simp [*]; done)), H', ⟨by have := HK1.out; have := HJ6.out; have := HJ49.out; omega⟩, ⟨by repeat (first | (with_reducible first | exact HB.out | apply below_alloc | apply pw_below_drewN | apply below_drew1 | refine below_set ?_ GE296.out) | exact HB.out)⟩⟩
                      · replace c54 := Bool.eq_false_iff.mpr c54
                        subst c54
                        have H1 : (if ((rd_T70 l0 x11_1).f0) = 2 then (chanceryref1_DeltaError.l0 kj49 l0 x3_1 x4_1 (l0.length : Int) (wrap64 (x11_1 + 1))) else (if x4_1 < 2147483648 then (chanceryref1_DeltaError.l0 kj49 l0 x3_1 (wrap64 (x4_1 + (wrap64 (((rd_T70 l0 x11_1).f1) + (((rd_T70 l0 x11_1).f3).length : Int))))) (l0.length : Int) (wrap64 (x11_1 + 1))) else (chanceryref1_DeltaError.l0 kj49 l0 x3_1 x4_1 (l0.length : Int) (wrap64 (x11_1 + 1))))) = some r := by rw [if_neg (show ¬ (false = true) by decide)] at H; exact H
                        clear H
                        have H := H1
                        clear H1
                        by_cases c60 : ((rd_T70 l0 x11_1).f0) = 2
                        · rw [if_pos c60] at H
                          have c60b0 : (((rd_T70 l0 x11_1).f0) == 2) = true := beq_iff_eq.mpr c60
                          have c60b1 : (((rd_T70 l0 x11_1).f0) != 2) = false := bne_eq_false_iff_eq.mpr c60
                          clear c60
                          have H' := Aside0.mk H
                          clear H
                          have hcz61_0 : wc.cell? ⟨gb296, 0, none⟩ = some (.int .i64 ((rd_T70 l0 x11_1).f0)) := (blk_cell BK296.out 0).trans rfl
                          have hcz61_1 : wc.cell? ⟨gb296, 1, none⟩ = some (.int .i64 ((rd_T70 l0 x11_1).f1)) := (blk_cell BK296.out 1).trans rfl
                          have hcz61_2 : wc.cell? ⟨gb296, 2, none⟩ = some (.slice A295_2 ((rd_T70 l0 x11_1).f2).length c295_2) := (blk_cell BK296.out 2).trans rfl
                          have hcz61_3 : wc.cell? ⟨gb296, 3, none⟩ = some (.slice A295_3 ((rd_T70 l0 x11_1).f3).length c295_3) := (blk_cell BK296.out 3).trans rfl
                          have hfz61_0 := blk_frozen BK296.out 0
                          have hfz61_1 := blk_frozen BK296.out 1
                          have hfz61_2 := blk_frozen BK296.out 2
                          have hfz61_3 := blk_frozen BK296.out 3
                          go_wp2
                          go_roundg kj49
                          case measure => have := HK1.out; have := HJ6.out; have := HJ49.out; omega
                          case rel => exact ⟨(x3_1), (x4_1), (wrap64 (x11_1 + 1)), (by first | rfl | (simp; done) | (simp [*]; done)), (by first | rfl | (simp; done) | (simp [*]; done)), (by first | rfl | (simp; done) | (simp [*]; done)), H', ⟨by have := HK1.out; have := HJ6.out; have := HJ49.out; omega⟩, ⟨by repeat (first | (with_reducible first | exact HB.out | apply below_alloc | apply pw_below_drewN | apply below_drew1 | refine below_set ?_ GE296.out) | exact HB.out)⟩⟩
                        · rw [if_neg c60] at H
                          have c60b0 : (((rd_T70 l0 x11_1).f0) == 2) = false := beq_eq_false_iff_ne.mpr c60
                          have c60b1 : (((rd_T70 l0 x11_1).f0) != 2) = true := bne_iff_ne.mpr c60
                          by_cases c62 : x4_1 < 2147483648
                          · rw [if_pos c62] at H
                            have c62b0 : decide (x4_1 < 2147483648) = true := decide_eq_true c62
                            clear c62
                            have H' := Aside0.mk H
                            clear H
                            have hcz63_0 : wc.cell? ⟨gb296, 0, none⟩ = some (.int .i64 ((rd_T70 l0 x11_1).f0)) := (blk_cell BK296.out 0).trans rfl
                            have hcz63_1 : wc.cell? ⟨gb296, 1, none⟩ = some (.int .i64 ((rd_T70 l0 x11_1).f1)) := (blk_cell BK296.out 1).trans rfl
                            have hcz63_2 : wc.cell? ⟨gb296, 2, none⟩ = some (.slice A295_2 ((rd_T70 l0 x11_1).f2).length c295_2) := (blk_cell BK296.out 2).trans rfl
                            have hcz63_3 : wc.cell? ⟨gb296, 3, none⟩ = some (.slice A295_3 ((rd_T70 l0 x11_1).f3).length c295_3) := (blk_cell BK296.out 3).trans rfl
                            have hfz63_0 := blk_frozen BK296.out 0
                            have hfz63_1 := blk_frozen BK296.out 1
                            have hfz63_2 := blk_frozen BK296.out 2
                            have hfz63_3 := blk_frozen BK296.out 3
                            go_wp2
                            go_roundg kj49
                            case measure => have := HK1.out; have := HJ6.out; have := HJ49.out; omega
                            case rel => exact ⟨(x3_1), (wrap64 (x4_1 + (wrap64 (((rd_T70 l0 x11_1).f1) + (((rd_T70 l0 x11_1).f3).length : Int))))), (wrap64 (x11_1 + 1)), (by first | rfl | (simp; done) | (simp [*]; done)), (by first | rfl | (simp; done) | (simp [*]; done)), (by first | rfl | (simp; done) | (simp [*]; done)), H', ⟨by have := HK1.out; have := HJ6.out; have := HJ49.out; omega⟩, ⟨by repeat (first | (with_reducible first | exact HB.out | apply below_alloc | apply pw_below_drewN | apply below_drew1 | refine below_set ?_ GE296.out) | exact HB.out)⟩⟩
                          · rw [if_neg c62] at H
                            have c62b0 : decide (x4_1 < 2147483648) = false := decide_eq_false c62
                            clear c62
                            have H' := Aside0.mk H
                            clear H
                            have hcz64_0 : wc.cell? ⟨gb296, 0, none⟩ = some (.int .i64 ((rd_T70 l0 x11_1).f0)) := (blk_cell BK296.out 0).trans rfl
                            have hcz64_1 : wc.cell? ⟨gb296, 1, none⟩ = some (.int .i64 ((rd_T70 l0 x11_1).f1)) := (blk_cell BK296.out 1).trans rfl
                            have hcz64_2 : wc.cell? ⟨gb296, 2, none⟩ = some (.slice A295_2 ((rd_T70 l0 x11_1).f2).length c295_2) := (blk_cell BK296.out 2).trans rfl
                            have hcz64_3 : wc.cell? ⟨gb296, 3, none⟩ = some (.slice A295_3 ((rd_T70 l0 x11_1).f3).length c295_3) := (blk_cell BK296.out 3).trans rfl
                            have hfz64_0 := blk_frozen BK296.out 0
                            have hfz64_1 := blk_frozen BK296.out 1
                            have hfz64_2 := blk_frozen BK296.out 2
                            have hfz64_3 := blk_frozen BK296.out 3
                            go_wp2
                            go_roundg kj49
                            case measure => have := HK1.out; have := HJ6.out; have := HJ49.out; omega
                            case rel => exact ⟨(x3_1), (x4_1), (wrap64 (x11_1 + 1)), (by first | rfl | (simp; done) | (simp [*]; done)), (by first | rfl | (simp; done) | (simp [*]; done)), (by first | rfl | (simp; done) | (simp [*]; done)), H', ⟨by have := HK1.out; have := HJ6.out; have := HJ49.out; omega⟩, ⟨by repeat (first | (with_reducible first | exact HB.out | apply below_alloc | apply pw_below_drewN | apply below_drew1 | refine below_set ?_ GE296.out) | exact HB.out)⟩⟩
            · rw [if_neg c6] at H
              have c6b0 : (t297 == 0) = false := beq_eq_false_iff_ne.mpr c6
              have c6b1 : (t297 != 0) = true := bne_iff_ne.mpr c6
              obtain rfl := Option.some.inj H
              have p295 : 0 ≤ (x11_1 : Int) := of_decide_eq_true (by first | (with_reducible assumption) | assumption)
              have q295 : x11_1 < (l0.length : Int) := of_decide_eq_true (by first | (with_reducible assumption) | assumption)
              obtain ⟨ad295, A295_2, c295_2, A295_3, c295_3, e295, hx295_0, hx295_1, hx295_2, hx295_3, hl295_2, hi295_2, hl295_3, hi295_3⟩ := at_T70 HR0.out x11_1 p295 q295
              cases e295
              replace hx295_0 := (HB.out.cell (World.block_lt_of_cell? w _ hx295_0)).trans hx295_0
              replace hx295_1 := (HB.out.cell (World.block_lt_of_cell? w _ hx295_1)).trans hx295_1
              replace hx295_2 := (HB.out.cell (World.block_lt_of_cell? w _ hx295_2)).trans hx295_2
              replace hx295_3 := (HB.out.cell (World.block_lt_of_cell? w _ hx295_3)).trans hx295_3
              have HR295_2 := Aside0.mk hi295_2
              have HC295_2 := Aside0.mk hl295_2
              clear hi295_2 hl295_2
              have HR295_3 := Aside0.mk hi295_3
              have HC295_3 := Aside0.mk hl295_3
              clear hi295_3 hl295_3
              replace p295 := eq_true p295
              replace q295 := eq_true q295
              go_wp2_with (first | ((with_reducible refine gate_dst (N := 6) rfl ?_); refine box_event ?hg (N := 6) ?hd (cs := #[.int .i64 0, .int .i64 0, .slice none 0 0, .slice none 0 0]) (t := 70) ?hr ?_; (case hd => rfl); (case hg => rfl); (case hr => first | (go_simp; done) | (go_simp; rfl)); intro gb296 hg w65 hbox hb; have n0_ := Aside0.mk (below_step (by repeat (first | (with_reducible first | exact HB.out | apply below_alloc | apply pw_below_drewN | apply below_drew1) | exact HB.out)) hb); have n1_ := Aside0.mk (hbox); have n2_ := Aside0.mk ((by rw [hg]; exact (below_size (by repeat (first | (with_reducible first | exact HB.out | apply below_alloc | apply pw_below_drewN | apply below_drew1) | exact HB.out))) : w.heap.size ≤ gb296)); have n3_ := Aside0.mk ((by rw [hg]; exact (below_size (by repeat (first | (with_reducible first | exact HB.out | apply below_alloc | apply pw_below_drewN | apply below_drew1) | exact HB.out))) : w.heap.size ≤ gb296)); clear HB; have HB := n0_; have BK296 := n1_; have GW296 := n2_; have GE296 := n3_; clear n0_ n1_ n2_ n3_; clear hb hbox hg; have hcz66_0 : w65.cell? ⟨gb296, 0, none⟩ = some (.int .i64 0) := (blk_cell BK296.out 0).trans rfl; have hcz66_1 : w65.cell? ⟨gb296, 1, none⟩ = some (.int .i64 0) := (blk_cell BK296.out 1).trans rfl; have hcz66_2 : w65.cell? ⟨gb296, 2, none⟩ = some (.slice none 0 0) := (blk_cell BK296.out 2).trans rfl; have hcz66_3 : w65.cell? ⟨gb296, 3, none⟩ = some (.slice none 0 0) := (blk_cell BK296.out 3).trans rfl; have hfz66_0 := blk_frozen BK296.out 0; have hfz66_1 := blk_frozen BK296.out 1; have hfz66_2 := blk_frozen BK296.out 2; have hfz66_3 := blk_frozen BK296.out 3) | ((with_reducible refine gate_callee (f := 89) rfl ?_); refine goesL_ (some 19) rfl rfl Try.func89 (by kernel_rfl) rfl #[.agg #[.int .i64 ((rd_T70 l0 x11_1).f0), .int .i64 ((rd_T70 l0 x11_1).f1), .slice A295_2 ((rd_T70 l0 x11_1).f2).length c295_2, .slice A295_3 ((rd_T70 l0 x11_1).f3).length c295_3]] rfl (by (try simp only [List.map_toArray, List.map_cons, List.map_nil]); first | done | rfl | (simp only [List.length_drop, List.length_take]; rfl)) ?_; (with_reducible refine (chanceryref1_StepError.calls k1 ((rd_T70 l0 x11_1).f0) ((rd_T70 l0 x11_1).f1) _ _ ((rd_T70 l0 x11_1).f2) _ _ ((rd_T70 l0 x11_1).f3) t297 _ ?side1 ?side2 ?side3 ?side4 A5.out).mono ?_); (case side1 => exact Kd.C_below HR295_2.out (by repeat (first | (with_reducible first | exact HB.out | apply below_alloc | apply pw_below_drewN | apply below_drew1 | refine below_set ?_ GE296.out) | exact HB.out))); (case side2 => exact HC295_2.out); (case side3 => exact Kd.C_below HR295_3.out (by repeat (first | (with_reducible first | exact HB.out | apply below_alloc | apply pw_below_drewN | apply below_drew1 | refine below_set ?_ GE296.out) | exact HB.out))); (case side4 => exact HC295_3.out); rintro e w67 ⟨rfl, hb⟩; refine ⟨_, rfl, ?_⟩; have n0_ := Aside0.mk (blk_below (g := gb296) (o := .cells #[.int .i64 ((rd_T70 l0 x11_1).f0), .int .i64 ((rd_T70 l0 x11_1).f1), .slice A295_2 ((rd_T70 l0 x11_1).f2).length c295_2, .slice A295_3 ((rd_T70 l0 x11_1).f3).length c295_3] 70 (0, 0)) (by (with_reducible repeat (first | refine blk_drewN ?_ _ | refine blk_drew ?_ | refine blk_alloc ?_ _)); refine blk_put (cs := #[.int .i64 ((rd_T70 l0 x11_1).f0), .int .i64 ((rd_T70 l0 x11_1).f1), .slice A295_2 ((rd_T70 l0 x11_1).f2).length c295_2, .slice none 0 0]) ?_ 3 _ rfl; (with_reducible repeat (first | refine blk_drewN ?_ _ | refine blk_drew ?_ | refine blk_alloc ?_ _)); refine blk_put (cs := #[.int .i64 ((rd_T70 l0 x11_1).f0), .int .i64 ((rd_T70 l0 x11_1).f1), .slice none 0 0, .slice none 0 0]) ?_ 2 _ rfl; (with_reducible repeat (first | refine blk_drewN ?_ _ | refine blk_drew ?_ | refine blk_alloc ?_ _)); refine blk_put (cs := #[.int .i64 ((rd_T70 l0 x11_1).f0), .int .i64 0, .slice none 0 0, .slice none 0 0]) ?_ 1 _ rfl; (with_reducible repeat (first | refine blk_drewN ?_ _ | refine blk_drew ?_ | refine blk_alloc ?_ _)); refine blk_put (cs := #[.int .i64 0, .int .i64 0, .slice none 0 0, .slice none 0 0]) ?_ 0 _ rfl; (with_reducible repeat (first | refine blk_drewN ?_ _ | refine blk_drew ?_ | refine blk_alloc ?_ _)); exact BK296.out) hb); have n1_ := Aside0.mk (below_step (by repeat (first | (with_reducible first | exact HB.out | apply below_alloc | apply pw_below_drewN | apply below_drew1 | refine below_set ?_ GE296.out) | exact HB.out)) hb); clear BK296; clear HB; have BK296 := n0_; have HB := n1_; clear n0_ n1_; (try clear hb); (try clear hb2); (try clear hk); (try clear hi)))
              go_ret
              exact ⟨by first | rfl | (simp [errW_none, errW_some] <;> rfl) | (simp [*, errW_none, errW_some] <;> rfl), by repeat (first | (with_reducible first | exact HB.out | apply below_alloc | apply pw_below_drewN | apply below_drew1 | refine below_set ?_ GE296.out) | exact HB.out)⟩
          · rw [if_neg c4] at H
            exact absurd H (by simp)
        · rw [if_neg c3] at H
          exact absurd H (by simp)
      · rw [if_neg c2] at H
        have c2b0 : decide (x11_1 < (l0.length : Int)) = false := decide_eq_false c2
        clear c2
        by_cases c68 : x3_1 > 2147483647
        · rw [if_pos c68] at H
          have c68b0 : decide (2147483647 < x3_1) = true := decide_eq_true c68
          clear c68
          obtain rfl := Option.some.inj H
          go_wp2
          go_ret
          exact ⟨by first | rfl | (simp [errW_none, errW_some] <;> rfl) | (simp [*, errW_none, errW_some] <;> rfl), by repeat (first | (with_reducible first | exact HB.out | apply below_alloc | apply pw_below_drewN | apply below_drew1) | exact HB.out)⟩
        · rw [if_neg c68] at H
          have c68b0 : decide (2147483647 < x3_1) = false := decide_eq_false c68
          clear c68
          by_cases c69 : x4_1 > 2147483647
          · rw [if_pos c69] at H
            have c69b0 : decide (2147483647 < x4_1) = true := decide_eq_true c69
            clear c69
            obtain rfl := Option.some.inj H
            go_wp2
            go_ret
            exact ⟨by first | rfl | (simp [errW_none, errW_some] <;> rfl) | (simp [*, errW_none, errW_some] <;> rfl), by repeat (first | (with_reducible first | exact HB.out | apply below_alloc | apply pw_below_drewN | apply below_drew1) | exact HB.out)⟩
          · rw [if_neg c69] at H
            have c69b0 : decide (2147483647 < x4_1) = false := decide_eq_false c69
            clear c69
            obtain rfl := Option.some.inj H
            go_wp2
            go_ret
            exact ⟨by first | rfl | (simp [errW_none, errW_some] <;> rfl) | (simp [*, errW_none, errW_some] <;> rfl), by repeat (first | (with_reducible first | exact HB.out | apply below_alloc | apply pw_below_drewN | apply below_drew1) | exact HB.out)⟩
end Go.Proofs.Ytdgemabmmomebaa.PDelta
end
section
namespace Go.Proofs.Ytdgemabmmomebaa.PDelta
open Go.RowKit Go.Proofs.YtdgemabmmomebaaW.PrintWords Go.Proofs.YtdgemabmmomebaaW.PrintLast Go.Proofs.YtdgemabmmomebaaW.PrintMore
attribute [local go_sem] max2_int min2_int max_two min_two max_three min_three max_four min_four
set_option linter.unusedVariables false
set_option linter.unusedSimpArgs false
attribute [local go_sem high] Go.Proofs.Ytdgemabmmomebaa.Ord.leq_str Go.Proofs.Ytdgemabmmomebaa.Ord.gtr_str Go.Proofs.Ytdgemabmmomebaa.Ord.geq_str
def chanceryref1_DeltaSize.l0 : Nat → List (S70) → Int → Int → Int → Option (Int)
  | 0, _, _, _, _ => none
  | k + 1, x0, x3, x6, x7 => if x7 < x6 then (if 0 ≤ x7 then (if x7 < (x0.length : Int) then (chanceryref1_DeltaSize.l0 k x0 (wrap64 (x3 + ((rd_T70 x0 x7).f1))) x6 (wrap64 (x7 + 1))) else (none)) else (none)) else (some x3)
def chanceryref1_DeltaSize.f (k : Nat) (l0 : List (S70)) : Option (Int) := chanceryref1_DeltaSize.l0 k l0 0 (l0.length : Int) 0
set_option maxHeartbeats 8000000 in
set_option maxRecDepth 100000 in
theorem chanceryref1_DeltaSize.calls (k : Nat) (A0 : Option Addr) (c0 : Nat) (l0 : List (S70)) (r : Int) (w : World) (hr0 : Kd.C k70 w A0 l0.length l0) (hc0 : l0.length ≤ c0) (h : chanceryref1_DeltaSize.f k l0 = some r) :
    Calls Try.prog 47 #[.slice A0 l0.length c0] w fun e w' => e = .returned (.int .i64 r) ∧ Drawn0 w w' := by
  have HR0 := Aside0.mk hr0
  have HC0 := Aside0.mk hc0
  clear hr0 hc0
  have H : (chanceryref1_DeltaSize.l0 k l0 0 (l0.length : Int) 0) = some r := h
  clear h
  have H' := Aside0.mk H
  clear H
  go_enter Try.func47, Try.ntmps47
  go_wp2
  go_loopg [3, 7] k (fun kq v3 v7 w' => ∃ (x3_1 : Int) (x7_1 : Int), v3 = .int .i64 x3_1 ∧ v7 = .int .i64 x7_1 ∧ Aside0 (chanceryref1_DeltaSize.l0 kq l0 x3_1 (l0.length : Int) x7_1 = some r) ∧ Aside0 (kq ≤ k) ∧ Drawn0 w w')
  case atStart => exact ⟨(0), (0), (by first | rfl | (simp; done) | (simp [*]; done)), (by first | rfl | (simp; done) | (simp [*]; done)), H', ⟨Nat.le_refl _⟩, by repeat (first | exact Drawn0.refl _ | apply Drawn0.step)⟩
  case round =>
    clear H'
    obtain ⟨x3_1, x7_1, rfl, rfl, HA, HK1, ⟨m1, rfl⟩⟩ := hrel
    cases gk with
    | zero => exact absurd HA.out (by simp [chanceryref1_DeltaSize.l0])
    | succ k1 =>
      have H := HA.out
      clear HA
      simp only [chanceryref1_DeltaSize.l0] at H
      by_cases c2 : x7_1 < (l0.length : Int)
      · rw [if_pos c2] at H
        have c2b0 : decide (x7_1 < (l0.length : Int)) = true := decide_eq_true c2
        clear c2
        by_cases c3 : 0 ≤ x7_1
        · rw [if_pos c3] at H
          have c3b0 : decide (0 ≤ x7_1) = true := decide_eq_true c3
          clear c3
          by_cases c4 : x7_1 < (l0.length : Int)
          · rw [if_pos c4] at H
            have c4b0 : decide (x7_1 < (l0.length : Int)) = true := decide_eq_true c4
            clear c4
            have H' := Aside0.mk H
            clear H
            have p301 : 0 ≤ (x7_1 : Int) := of_decide_eq_true (by first | (with_reducible assumption) | assumption)
            have q301 : x7_1 < (l0.length : Int) := of_decide_eq_true (by first | (with_reducible assumption) | assumption)
            obtain ⟨ad301, A301_2, c301_2, A301_3, c301_3, e301, hx301_0, hx301_1, hx301_2, hx301_3, hl301_2, hi301_2, hl301_3, hi301_3⟩ := at_T70 HR0.out x7_1 p301 q301
            cases e301
            have HR301_2 := Aside0.mk hi301_2
            have HC301_2 := Aside0.mk hl301_2
            clear hi301_2 hl301_2
            have HR301_3 := Aside0.mk hi301_3
            have HC301_3 := Aside0.mk hl301_3
            clear hi301_3 hl301_3
            replace p301 := eq_true p301
            replace q301 := eq_true q301
            go_wp2
            go_roundg k1
            case measure => have := HK1.out; omega
            case rel => exact ⟨(wrap64 (x3_1 + ((rd_T70 l0 x7_1).f1))), (wrap64 (x7_1 + 1)), (by first | rfl | (simp; done) | (simp [*]; done)), (by first | rfl | (simp; done) | (simp [*]; done)), H', ⟨by have := HK1.out; omega⟩, by repeat (first | exact Drawn0.refl _ | apply Drawn0.step)⟩
          · rw [if_neg c4] at H
            exact absurd H (by simp)
        · rw [if_neg c3] at H
          exact absurd H (by simp)
      · rw [if_neg c2] at H
        have c2b0 : decide (x7_1 < (l0.length : Int)) = false := decide_eq_false c2
        clear c2
        obtain rfl := Option.some.inj H
        go_wp2
        go_ret
        exact ⟨by first | rfl | (simp; done) | (simp [*]; done), by repeat (first | exact Drawn0.refl _ | apply Drawn0.step)⟩
end Go.Proofs.Ytdgemabmmomebaa.PDelta
end
section
namespace Go.Proofs.Ytdgemabmmomebaa.PDelta
open Go.RowKit Go.Proofs.YtdgemabmmomebaaW.PrintWords Go.Proofs.YtdgemabmmomebaaW.PrintLast Go.Proofs.YtdgemabmmomebaaW.PrintMore
set_option linter.unusedVariables false
set_option linter.unusedSimpArgs false
theorem drop_T38 (l : List S38) (i : Nat) (h : i < l.length) : l.drop i = rd_T38 l (i : Int) :: l.drop (i + 1) := by
  rw [List.drop_eq_getElem_cons h]
  simp [rd_T38, List.getD_eq_getElem?_getD, List.getElem?_eq_getElem h]
theorem neq_cond (x y : S38) : ((!(x.f0.toList == y.f0.toList) || (!(x.f1.toList == y.f1.toList))) = true) ↔ x ≠ y := by
  rw [Bool.or_eq_true, Bool.not_eq_true', Bool.not_eq_true', beq_eq_false_iff_ne, beq_eq_false_iff_ne]
  constructor
  · rintro h rfl
    rcases h with h | h <;> exact h rfl
  · intro h
    by_cases h0 : x.f0.toList = y.f0.toList
    · exact .inr (fun h1 => h (s38_ext h0 h1))
    · exact .inl h0
theorem asame_l0 (a b : List S38) (hs : a.length ≤ 1099511627776) (hl : a.length = b.length) (d : Nat) : ∀ i : Nat, i + d = a.length → ∃ r, Ev (fun k => attr_Same.l0 k a b (a.length : Int) (i : Int)) r ∧ (r = true ↔ a.drop i = b.drop i) := by
  induction d with
  | zero =>
    intro i hi
    refine ⟨true, Ev.step (f := fun _ => some true) (fun k => ?_) (Ev.now true), ⟨fun _ => by rw [List.drop_eq_nil_of_le (by omega), List.drop_eq_nil_of_le (by omega)], fun _ => rfl⟩⟩
    simp only [attr_Same.l0]
    rw [if_neg (by omega)]
  | succ d ih =>
    intro i hi
    obtain ⟨r, hr, hri⟩ := ih (i + 1) (by omega)
    have e : ∀ k, attr_Same.l0 (k + 1) a b (a.length : Int) (i : Int) = if (!(((rd_T38 a (i : Int)).f0).toList == ((rd_T38 b (i : Int)).f0).toList) || (!(((rd_T38 a (i : Int)).f1).toList == ((rd_T38 b (i : Int)).f1).toList))) = true then some false else attr_Same.l0 k a b (a.length : Int) ((i + 1 : Nat) : Int) := fun k => by
      simp only [attr_Same.l0]
      rw [if_pos (by omega), if_pos (by omega), if_pos (by omega), if_pos (by omega), wrap_up (by omega) (by omega)]
      rfl
    rw [drop_T38 a i (by omega), drop_T38 b i (by omega)]
    by_cases hx : rd_T38 a (i : Int) = rd_T38 b (i : Int)
    · refine ⟨r, Ev.step (fun k => by rw [e, if_neg (fun h => (neq_cond _ _).1 h hx)]) hr, hri.trans ⟨fun h => by rw [hx, h], fun h => (List.cons.inj h).2⟩⟩
    · exact ⟨false, Ev.step (f := fun _ => some false) (fun k => by rw [e, if_pos ((neq_cond _ _).2 hx)]) (Ev.now false), ⟨(fun h => by cases h), (fun h => absurd (List.cons.inj h).1 hx)⟩⟩
theorem asame_ev (a b : List S38) (hs : a.length ≤ 1099511627776) : ∃ r, Ev (fun k => attr_Same.f k a b) r ∧ (r = true ↔ a = b) := by
  by_cases hl : a.length = b.length
  · obtain ⟨r, hr, hri⟩ := asame_l0 a b hs hl a.length 0 (by omega)
    refine ⟨r, Ev.congr (fun k => ?_) hr, hri⟩
    unfold attr_Same.f
    rw [if_pos (by omega)]
    rfl
  · refine ⟨false, Ev.congr (fun k => ?_) (Ev.now false), ⟨(fun h => by cases h), (fun h => absurd (congrArg List.length h) hl)⟩⟩
    unfold attr_Same.f
    rw [if_neg (by omega)]
theorem rsame_l0 (a b : List S38) (hs : a.length ≤ 1099511627776) (hl : a.length = b.length) (d : Nat) : ∀ i : Nat, i + d = a.length → ∃ r, Ev (fun k => chanceryref1_SameAttrs.l0 k a b (a.length : Int) (i : Int)) r ∧ (r = true ↔ a.drop i = b.drop i) := by
  induction d with
  | zero =>
    intro i hi
    refine ⟨true, Ev.step (f := fun _ => some true) (fun k => ?_) (Ev.now true), ⟨fun _ => by rw [List.drop_eq_nil_of_le (by omega), List.drop_eq_nil_of_le (by omega)], fun _ => rfl⟩⟩
    simp only [chanceryref1_SameAttrs.l0]
    rw [if_neg (by omega)]
  | succ d ih =>
    intro i hi
    obtain ⟨r, hr, hri⟩ := ih (i + 1) (by omega)
    have e : ∀ k, chanceryref1_SameAttrs.l0 (k + 1) a b (a.length : Int) (i : Int) = if (!(((rd_T38 a (i : Int)).f0).toList == ((rd_T38 b (i : Int)).f0).toList) || (!(((rd_T38 a (i : Int)).f1).toList == ((rd_T38 b (i : Int)).f1).toList))) = true then some false else chanceryref1_SameAttrs.l0 k a b (a.length : Int) ((i + 1 : Nat) : Int) := fun k => by
      simp only [chanceryref1_SameAttrs.l0]
      rw [if_pos (by omega), if_pos (by omega), if_pos (by omega), if_pos (by omega), wrap_up (by omega) (by omega)]
      rfl
    rw [drop_T38 a i (by omega), drop_T38 b i (by omega)]
    by_cases hx : rd_T38 a (i : Int) = rd_T38 b (i : Int)
    · refine ⟨r, Ev.step (fun k => by rw [e, if_neg (fun h => (neq_cond _ _).1 h hx)]) hr, hri.trans ⟨fun h => by rw [hx, h], fun h => (List.cons.inj h).2⟩⟩
    · exact ⟨false, Ev.step (f := fun _ => some false) (fun k => by rw [e, if_pos ((neq_cond _ _).2 hx)]) (Ev.now false), ⟨(fun h => by cases h), (fun h => absurd (List.cons.inj h).1 hx)⟩⟩
theorem rsame_ev (a b : List S38) (hs : a.length ≤ 1099511627776) : ∃ r, Ev (fun k => chanceryref1_SameAttrs.f k a b) r ∧ (r = true ↔ a = b) := by
  by_cases hl : a.length = b.length
  · obtain ⟨r, hr, hri⟩ := rsame_l0 a b hs hl a.length 0 (by omega)
    refine ⟨r, Ev.congr (fun k => ?_) hr, hri⟩
    unfold chanceryref1_SameAttrs.f
    rw [if_pos (by omega)]
    rfl
  · refine ⟨false, Ev.congr (fun k => ?_) (Ev.now false), ⟨(fun h => by cases h), (fun h => absurd (congrArg List.length h) hl)⟩⟩
    unfold chanceryref1_SameAttrs.f
    rw [if_neg (by omega)]
def StepOK (s : S70) : Prop :=
  (s.f0 = 0 ∧ 1 ≤ s.f1 ∧ s.f1 ≤ 2147483647 ∧ s.f3 = [] ∧ VA true s.f2) ∨ (s.f0 = 1 ∧ s.f1 = 0 ∧ s.f2 = [] ∧ s.f3 ≠ [] ∧ POK s.f3) ∨ (s.f0 = 2 ∧ 1 ≤ s.f1 ∧ s.f1 ≤ 2147483647 ∧ s.f3 = [] ∧ s.f2 = [])
def SSm (s : S70) : Prop := Small s.f2 ∧ FSmall s.f3
theorem va_nil (ch : Bool) : VA ch [] := ⟨(fun x hx => by cases hx), List.Pairwise.nil⟩
theorem len_pos {α : Type} {l : List α} : (l.length : Int) > 0 ↔ l ≠ [] := by
  cases l with
  | nil => simp
  | cons a l => simp
theorem step_ev (s : S70) (hs : SSm s) : ∃ r : Int, Ev (fun k => delta_step.f k s.f0 s.f1 s.f2 s.f3) r ∧ (r = 0 ↔ StepOK s) := by
  obtain ⟨c, hc, hci⟩ := chkc_ev s.f2 hs.1
  obtain ⟨p, hp, hpi⟩ := part_ev s.f3 hs.2
  have j1 : ∀ b : Bool, ∃ r : Int, Ev (fun k => delta_step.j1 k b s.f0 s.f1 s.f2 s.f3) r ∧ (r = 0 ↔ b = false ∧ 1 ≤ s.f1 ∧ s.f1 ≤ 2147483647 ∧ VA true s.f2) := by
    intro b
    cases b with
    | true => exact ⟨4, Ev.step (f := fun _ => some 4) (fun k => by simp only [delta_step.j1]; rw [if_pos trivial]) (Ev.now 4), by simp⟩
    | false =>
      by_cases h1 : s.f1 < 1
      · exact ⟨2, Ev.step (f := fun _ => some 2) (fun k => by simp only [delta_step.j1]; rw [if_neg (by decide), if_pos h1]) (Ev.now 2), ⟨fun h => by omega, fun h => by omega⟩⟩
      by_cases h2 : s.f1 > 2147483647
      · exact ⟨2, Ev.step (f := fun _ => some 2) (fun k => by simp only [delta_step.j1]; rw [if_neg (by decide), if_neg h1, if_pos h2]) (Ev.now 2), ⟨fun h => by omega, fun h => by omega⟩⟩
      exact ⟨c, Ev.step (fun k => by simp only [delta_step.j1]; rw [if_neg (by decide), if_neg h1, if_neg h2]) (Ev.bind hc (Ev.now c)), hci.trans ⟨fun h => ⟨rfl, by omega, by omega, h⟩, fun h => h.2.2.2⟩⟩
  have j2 : ∀ b : Bool, ∃ r : Int, Ev (fun k => delta_step.j2 k b s.f0 s.f1 s.f2 s.f3) r ∧ (r = 0 ↔ b = false ∧ s.f3 ≠ [] ∧ POK s.f3) := by
    intro b
    cases b with
    | true => exact ⟨4, Ev.step (f := fun _ => some 4) (fun k => by simp only [delta_step.j2]; rw [if_pos trivial]) (Ev.now 4), by simp⟩
    | false =>
      by_cases h1 : s.f3 = []
      · exact ⟨11, Ev.step (f := fun _ => some 11) (fun k => by simp only [delta_step.j2]; rw [if_neg (by decide), if_pos (by rw [h1]; rfl)]) (Ev.now 11), ⟨fun h => by omega, fun h => absurd h1 h.2.1⟩⟩
      · exact ⟨p, Ev.step (fun k => by simp only [delta_step.j2]; rw [if_neg (by decide), if_neg (by have := len_pos.2 h1; omega)]) (Ev.bind hp (Ev.now p)), hpi.trans ⟨fun h => ⟨rfl, h1, h⟩, fun h => h.2.2⟩⟩
  have kc : ∀ (f : Nat → Option Int), (∀ k, f (k + 1) = delta_step.j0 (k + 1) s.f0 true s.f0 s.f1 s.f2 s.f3) → (s.f0 = 0 ∨ s.f0 = 2) → ∃ r : Int, Ev f r ∧ (r = 0 ↔ StepOK s) := by
    intro f hf hk
    by_cases h3 : s.f3 = []
    · by_cases hcut : s.f0 = 2
      · obtain ⟨r, hr, hri⟩ := j1 (decide ((s.f2.length : Int) > 0))
        refine ⟨r, Ev.step (fun k => by rw [hf]; simp only [delta_step.j0]; rw [if_pos trivial, if_neg (by rw [h3]; decide), if_pos hcut]) hr, hri.trans ⟨fun h => ?_, fun h => ?_⟩⟩
        · have h2 : s.f2 = [] := Classical.byContradiction (fun hn => absurd h.1 (by rw [decide_eq_true (len_pos.2 hn)]; decide))
          exact .inr (.inr ⟨hcut, h.2.1, h.2.2.1, h3, h2⟩)
        · rcases h with h | h | h
          · omega
          · omega
          · exact ⟨by rw [h.2.2.2.2]; rfl, h.2.1, h.2.2.1, by rw [h.2.2.2.2]; exact va_nil _⟩
      · obtain ⟨r, hr, hri⟩ := j1 false
        refine ⟨r, Ev.step (fun k => by rw [hf]; simp only [delta_step.j0]; rw [if_pos trivial, if_neg (by rw [h3]; decide), if_neg hcut]) hr, hri.trans ⟨fun h => .inl ⟨by omega, h.2.1, h.2.2.1, h3, h.2.2.2⟩, fun h => ?_⟩⟩
        rcases h with h | h | h
        · exact ⟨rfl, h.2.1, h.2.2.1, h.2.2.2.2⟩
        · omega
        · omega
    · obtain ⟨r, hr, hri⟩ := j1 true
      refine ⟨r, Ev.step (fun k => by rw [hf]; simp only [delta_step.j0]; rw [if_pos trivial, if_pos (len_pos.2 h3)]) hr, hri.trans ⟨(fun h => by cases h.1), fun h => ?_⟩⟩
      rcases h with h | h | h
      · exact absurd h.2.2.2.1 h3
      · omega
      · exact absurd h.2.2.2.1 h3
  by_cases h0 : s.f0 = 0
  · exact kc _ (fun k => by unfold delta_step.f; rw [if_pos h0, h0]; rfl) (.inl h0)
  by_cases h2 : s.f0 = 2
  · exact kc _ (fun k => by unfold delta_step.f; rw [if_neg h0, h2]; rfl) (.inr h2)
  have e : ∀ k, delta_step.f (k + 1) s.f0 s.f1 s.f2 s.f3 = if s.f0 = 1 then (if s.f1 = 0 then delta_step.j2 k (decide ((s.f2.length : Int) > 0)) s.f0 s.f1 s.f2 s.f3 else delta_step.j2 k true s.f0 s.f1 s.f2 s.f3) else some 8 := fun k => by
    unfold delta_step.f
    rw [if_neg h0, show (s.f0 == 2) = false from beq_eq_false_iff_ne.mpr h2]
    simp only [delta_step.j0]
    rw [if_neg (by decide)]
  by_cases h1 : s.f0 = 1
  · by_cases hn : s.f1 = 0
    · obtain ⟨r, hr, hri⟩ := j2 (decide ((s.f2.length : Int) > 0))
      refine ⟨r, Ev.step (fun k => by rw [e, if_pos h1, if_pos hn]) hr, hri.trans ⟨fun h => ?_, fun h => ?_⟩⟩
      · have h2 : s.f2 = [] := Classical.byContradiction (fun hn => absurd h.1 (by rw [decide_eq_true (len_pos.2 hn)]; decide))
        exact .inr (.inl ⟨h1, hn, h2, h.2.1, h.2.2⟩)
      · rcases h with h | h | h
        · omega
        · exact ⟨by rw [h.2.2.1]; rfl, h.2.2.2.1, h.2.2.2.2⟩
        · omega
    · obtain ⟨r, hr, hri⟩ := j2 true
      refine ⟨r, Ev.step (fun k => by rw [e, if_pos h1, if_neg hn]) hr, hri.trans ⟨(fun h => by cases h.1), fun h => ?_⟩⟩
      rcases h with h | h | h <;> omega
  · refine ⟨8, Ev.step (f := fun _ => some 8) (fun k => by rw [e, if_neg h1]) (Ev.now 8), ⟨fun h => by omega, fun h => ?_⟩⟩
    rcases h with h | h | h <;> omega
theorem rstep_ev (s : S70) (hs : SSm s) : ∃ r : Int, Ev (fun k => chanceryref1_StepError.f k s.f0 s.f1 s.f2 s.f3) r ∧ (r = 0 ↔ StepOK s) := by
  obtain ⟨c, hc, hci⟩ := rerr_ev s.f2 true hs.1
  obtain ⟨p, hp, hpi⟩ := rpart_ev s.f3 hs.2
  have j1 : ∀ b : Bool, ∃ r : Int, Ev (fun k => chanceryref1_StepError.j1 k b s.f0 s.f1 s.f2 s.f3) r ∧ (r = 0 ↔ b = false ∧ 1 ≤ s.f1 ∧ s.f1 ≤ 2147483647 ∧ VA true s.f2) := by
    intro b
    cases b with
    | true => exact ⟨4, Ev.step (f := fun _ => some 4) (fun k => by simp only [chanceryref1_StepError.j1]; rw [if_pos trivial]) (Ev.now 4), by simp⟩
    | false =>
      by_cases h1 : 1 ≤ s.f1 ∧ s.f1 ≤ 2147483647
      · exact ⟨c, Ev.step (fun k => by simp only [chanceryref1_StepError.j1]; rw [if_neg (by decide), rin_is, decide_eq_true h1, Option.bind_some, if_pos rfl]) (Ev.bind hc (Ev.now c)), hci.trans ⟨fun h => ⟨rfl, h1.1, h1.2, h⟩, fun h => h.2.2.2⟩⟩
      · exact ⟨2, Ev.step (f := fun _ => some 2) (fun k => by simp only [chanceryref1_StepError.j1]; rw [if_neg (by decide), rin_is, decide_eq_false h1, Option.bind_some, if_neg (by decide)]) (Ev.now 2), ⟨fun h => by omega, fun h => absurd ⟨h.2.1, h.2.2.1⟩ h1⟩⟩
  have j0 : ∀ b : Bool, ∃ r : Int, Ev (fun k => chanceryref1_StepError.j0 k b s.f0 s.f1 s.f2 s.f3) r ∧ (r = 0 ↔ b = false ∧ s.f3 ≠ [] ∧ POK s.f3) := by
    intro b
    cases b with
    | true => exact ⟨4, Ev.step (f := fun _ => some 4) (fun k => by simp only [chanceryref1_StepError.j0]; rw [if_pos trivial]) (Ev.now 4), by simp⟩
    | false =>
      by_cases h1 : s.f3 = []
      · exact ⟨11, Ev.step (f := fun _ => some 11) (fun k => by simp only [chanceryref1_StepError.j0]; rw [if_neg (by decide), if_pos (by rw [h1]; rfl)]) (Ev.now 11), ⟨fun h => by omega, fun h => absurd h1 h.2.1⟩⟩
      · exact ⟨p, Ev.step (fun k => by simp only [chanceryref1_StepError.j0]; rw [if_neg (by decide), if_neg (by have := len_pos.2 h1; omega)]) (Ev.bind hp (Ev.now p)), hpi.trans ⟨fun h => ⟨rfl, h1, h⟩, fun h => h.2.2⟩⟩
  by_cases hr : 0 ≤ s.f0 ∧ s.f0 ≤ 2
  rotate_left
  · refine ⟨8, Ev.congr (fun k => ?_) (Ev.now 8), ⟨fun h => by omega, fun h => ?_⟩⟩
    · unfold chanceryref1_StepError.f
      rw [rin_is, decide_eq_false hr, Option.bind_some, if_neg (by decide)]
    · rcases h with h | h | h <;> omega
  have e : ∀ k, chanceryref1_StepError.f k s.f0 s.f1 s.f2 s.f3 = if s.f0 = 1 then (if s.f1 = 0 then chanceryref1_StepError.j0 k (decide ((s.f2.length : Int) > 0)) s.f0 s.f1 s.f2 s.f3 else chanceryref1_StepError.j0 k true s.f0 s.f1 s.f2 s.f3) else (if (s.f3.length : Int) > 0 then chanceryref1_StepError.j1 k true s.f0 s.f1 s.f2 s.f3 else if s.f0 = 2 then chanceryref1_StepError.j1 k (decide ((s.f2.length : Int) > 0)) s.f0 s.f1 s.f2 s.f3 else chanceryref1_StepError.j1 k false s.f0 s.f1 s.f2 s.f3) := fun k => by
    unfold chanceryref1_StepError.f
    rw [rin_is, decide_eq_true hr, Option.bind_some, if_pos rfl]
  by_cases h1 : s.f0 = 1
  · by_cases hn : s.f1 = 0
    · obtain ⟨r, hr, hri⟩ := j0 (decide ((s.f2.length : Int) > 0))
      refine ⟨r, Ev.congr (fun k => by rw [e, if_pos h1, if_pos hn]) hr, hri.trans ⟨fun h => ?_, fun h => ?_⟩⟩
      · have h2 : s.f2 = [] := Classical.byContradiction (fun hn => absurd h.1 (by rw [decide_eq_true (len_pos.2 hn)]; decide))
        exact .inr (.inl ⟨h1, hn, h2, h.2.1, h.2.2⟩)
      · rcases h with h | h | h
        · omega
        · exact ⟨by rw [h.2.2.1]; rfl, h.2.2.2.1, h.2.2.2.2⟩
        · omega
    · obtain ⟨r, hr, hri⟩ := j0 true
      refine ⟨r, Ev.congr (fun k => by rw [e, if_pos h1, if_neg hn]) hr, hri.trans ⟨(fun h => by cases h.1), fun h => ?_⟩⟩
      rcases h with h | h | h <;> omega
  by_cases h3 : s.f3 = []
  rotate_left
  · obtain ⟨r, hr, hri⟩ := j1 true
    refine ⟨r, Ev.congr (fun k => by rw [e, if_neg h1, if_pos (len_pos.2 h3)]) hr, hri.trans ⟨(fun h => by cases h.1), fun h => ?_⟩⟩
    rcases h with h | h | h
    · exact absurd h.2.2.2.1 h3
    · omega
    · exact absurd h.2.2.2.1 h3
  by_cases h2 : s.f0 = 2
  · obtain ⟨r, hr, hri⟩ := j1 (decide ((s.f2.length : Int) > 0))
    refine ⟨r, Ev.congr (fun k => by rw [e, if_neg h1, if_neg (by rw [h3]; decide), if_pos h2]) hr, hri.trans ⟨fun h => ?_, fun h => ?_⟩⟩
    · have h4 : s.f2 = [] := Classical.byContradiction (fun hn => absurd h.1 (by rw [decide_eq_true (len_pos.2 hn)]; decide))
      exact .inr (.inr ⟨h2, h.2.1, h.2.2.1, h3, h4⟩)
    · rcases h with h | h | h
      · omega
      · omega
      · exact ⟨by rw [h.2.2.2.2]; rfl, h.2.1, h.2.2.1, by rw [h.2.2.2.2]; exact va_nil _⟩
  · obtain ⟨r, hr, hri⟩ := j1 false
    refine ⟨r, Ev.congr (fun k => by rw [e, if_neg h1, if_neg (by rw [h3]; decide), if_neg h2]) hr, hri.trans ⟨fun h => .inl ⟨by omega, h.2.1, h.2.2.1, h3, h.2.2.2⟩, fun h => ?_⟩⟩
    rcases h with h | h | h
    · exact ⟨rfl, h.2.1, h.2.2.1, h.2.2.2.2⟩
    · omega
    · omega
end Go.Proofs.Ytdgemabmmomebaa.PDelta
end
section
namespace Go.Proofs.Ytdgemabmmomebaa.PDelta
open Go.RowKit Go.Proofs.YtdgemabmmomebaaW.PrintWords Go.Proofs.YtdgemabmmomebaaW.PrintLast Go.Proofs.YtdgemabmmomebaaW.PrintMore
set_option linter.unusedVariables false
set_option linter.unusedSimpArgs false
def Adj (p s : S70) : Prop := ¬ (p.f0 = s.f0 ∧ (s.f0 ≠ 0 ∨ p.f2 = s.f2)) ∧ ¬ (p.f0 = 2 ∧ s.f0 = 1)
def ordOK : Option S70 → List S70 → Prop
  | _, [] => True
  | p, s :: r => (∀ q, p = some q → Adj q s) ∧ ordOK (some s) r
def oldS (s : S70) : Int := if s.f0 = 1 then 0 else s.f1
def newS (s : S70) : Int := if s.f0 = 2 then 0 else if s.f0 = 1 then (s.f3.length : Int) else s.f1
def old : List S70 → Int
  | [] => 0
  | s :: r => oldS s + old r
def new : List S70 → Int
  | [] => 0
  | s :: r => newS s + new r
structure DOK (d : List S70) : Prop where
  ok : ∀ s ∈ d, StepOK s
  ord : ordOK none d
  old : old d ≤ 2147483647
  new : new d ≤ 2147483647
def DSm (d : List S70) : Prop := d.length ≤ 1073741824 ∧ ∀ s ∈ d, SSm s
theorem rd70_mem {l : List S70} {i : Nat} (h : i < l.length) : rd_T70 l (i : Int) ∈ l := by
  simp only [rd_T70, Int.toNat_natCast, List.getD_eq_getElem?_getD, List.getElem?_eq_getElem h, Option.getD_some]
  exact List.getElem_mem h
theorem oldS_nn {s : S70} (h : StepOK s) : 0 ≤ oldS s ∧ oldS s ≤ 2147483647 := by
  unfold oldS
  rcases h with h | h | h <;> split <;> omega
theorem newS_nn {s : S70} (h : StepOK s) (hs : SSm s) : 0 ≤ newS s ∧ newS s ≤ 2147483647 := by
  have := hs.2.1
  unfold newS
  rcases h with h | h | h
  · rw [if_neg (by omega), if_neg (by omega)]; omega
  · rw [if_neg (by omega), if_pos h.1]; omega
  · rw [if_pos h.1]; omega
theorem old_nn : ∀ {d : List S70}, (∀ s ∈ d, StepOK s) → 0 ≤ old d
  | [], _ => Int.le_refl _
  | s :: r, h => by
    have h1 := oldS_nn (h s List.mem_cons_self)
    have h2 := old_nn (d := r) (fun x hx => h x (List.mem_cons_of_mem _ hx))
    rw [old]
    omega
theorem new_nn : ∀ {d : List S70}, (∀ s ∈ d, StepOK s) → (∀ s ∈ d, SSm s) → 0 ≤ new d
  | [], _, _ => Int.le_refl _
  | s :: r, h, hs => by
    have h1 := newS_nn (h s List.mem_cons_self) (hs s List.mem_cons_self)
    have h2 := new_nn (d := r) (fun x hx => h x (List.mem_cons_of_mem _ hx)) (fun x hx => hs x (List.mem_cons_of_mem _ hx))
    rw [new]
    omega
theorem mn_cap {a : Int} : mn a 2147483648 = if a ≤ 2147483648 then a else 2147483648 := by unfold mn; split <;> split <;> omega
def prev (d : List S70) : Nat → Option S70
  | 0 => none
  | i + 1 => some (rd_T70 d (i : Int))
theorem adj_prev {d : List S70} {i : Nat} (h0 : 0 < i) (P : Prop) : (∀ q, prev d i = some q → Adj q (rd_T70 d (i : Int))) ↔ Adj (rd_T70 d ((i : Int) - 1)) (rd_T70 d (i : Int)) := by
  obtain ⟨j, rfl⟩ : ∃ j, i = j + 1 := ⟨i - 1, by omega⟩
  rw [show ((j + 1 : Nat) : Int) - 1 = (j : Int) by omega]
  exact ⟨fun h => h _ rfl, fun h q hq => by cases hq; exact h⟩
def RestOK (p : Option S70) (r : List S70) (b a : Int) : Prop := (∀ s ∈ r, StepOK s) ∧ ordOK p r ∧ b + old r ≤ 2147483647 ∧ a + new r ≤ 2147483647
theorem rest_cons {p : Option S70} {s : S70} {r : List S70} {b a : Int} : RestOK p (s :: r) b a ↔ StepOK s ∧ (∀ q, p = some q → Adj q s) ∧ RestOK (some s) r (b + oldS s) (a + newS s) := by
  unfold RestOK
  rw [ordOK, old, new]
  constructor
  · rintro ⟨h1, ⟨h2, h3⟩, h4, h5⟩
    exact ⟨h1 s List.mem_cons_self, h2, fun x hx => h1 x (List.mem_cons_of_mem _ hx), h3, by omega, by omega⟩
  · rintro ⟨h1, h2, h3, h4, h5, h6⟩
    exact ⟨fun x hx => by rcases List.mem_cons.1 hx with rfl | hx; exact h1; exact h3 x hx, ⟨h2, h4⟩, by omega, by omega⟩
theorem rest_cap {p : Option S70} {r : List S70} {b a b' a' : Int} (hs : ∀ s ∈ r, SSm s) (hb : b = b' ∨ (2147483647 < b ∧ 2147483647 < b')) (ha : a = a' ∨ (2147483647 < a ∧ 2147483647 < a')) : RestOK p r b a ↔ RestOK p r b' a' := by
  unfold RestOK
  constructor
  · rintro ⟨h1, h2, h3, h4⟩
    have := old_nn h1
    have := new_nn h1 hs
    exact ⟨h1, h2, by omega, by omega⟩
  · rintro ⟨h1, h2, h3, h4⟩
    have := old_nn h1
    have := new_nn h1 hs
    exact ⟨h1, h2, by omega, by omega⟩
theorem size_is (s : S70) : delta_size.f s.f0 s.f1 s.f2 s.f3 = some (if s.f0 = 1 then (s.f3.length : Int) else s.f1) := by
  unfold delta_size.f
  split <;> rfl
theorem w64 {i : Int} (h0 : -4611686018427387904 ≤ i) (h : i ≤ 4611686018427387904) : wrap64 i = i := by unfold wrap64; omega
theorem check_l0 (d : List S70) (hs : DSm d) (n : Nat) : ∀ (i : Nat) (b a : Int), i + n = d.length → 0 ≤ b → b ≤ 2147483648 → 0 ≤ a → a ≤ 2147483648 →
    ∃ r : Int, Ev (fun k => delta_Check.l0 k d b a d (d.length : Int) (i : Int)) r ∧ (r = 0 ↔ RestOK (prev d i) (d.drop i) b a) := by
  have hs1 := hs.1
  induction n with
  | zero =>
    intro i b a hi hb0 hb ha0 ha
    have e : ∀ k, delta_Check.l0 (k + 1) d b a d (d.length : Int) (i : Int) = if b > 2147483647 then some 3 else if a > 2147483647 then some 3 else some 0 := fun k => by
      simp only [delta_Check.l0]
      rw [if_neg (by omega)]
    rw [List.drop_eq_nil_of_le (by omega)]
    have hR : RestOK (prev d i) [] b a ↔ b ≤ 2147483647 ∧ a ≤ 2147483647 := ⟨fun h => by have := h.2.2; simp [old, new] at this; exact this, fun h => ⟨(fun s hs => by cases hs), trivial, by simp [old]; exact h.1, by simp [new]; exact h.2⟩⟩
    rw [hR]
    by_cases h1 : b > 2147483647
    · exact ⟨3, Ev.step (f := fun _ => some 3) (fun k => by rw [e, if_pos h1]) (Ev.now 3), ⟨fun h => by omega, fun h => by omega⟩⟩
    by_cases h2 : a > 2147483647
    · exact ⟨3, Ev.step (f := fun _ => some 3) (fun k => by rw [e, if_neg h1, if_pos h2]) (Ev.now 3), ⟨fun h => by omega, fun h => by omega⟩⟩
    exact ⟨0, Ev.step (f := fun _ => some 0) (fun k => by rw [e, if_neg h1, if_neg h2]) (Ev.now 0), ⟨fun h => by omega, fun h => rfl⟩⟩
  | succ n ih =>
    intro i b a hi hb0 hb ha0 ha
    have hlt : i < d.length := by omega
    have hsm := hs.2 _ (rd70_mem hlt)
    rw [drop_T70 d i hlt]
    obtain ⟨r0, hr0, hri0⟩ := step_ev _ hsm
    obtain ⟨s, hsd⟩ : ∃ s, s = rd_T70 d (i : Int) := ⟨_, rfl⟩
    rw [← hsd] at hsm hr0 hri0
    rw [rest_cons, ← hsd]
    have hrs : ∀ x ∈ d.drop (i + 1), SSm x := fun x hx => hs.2 x (List.mem_of_mem_drop hx)
    have j1 : StepOK s → ∃ r : Int, Ev (fun k => delta_Check.j1 k d b a d (d.length : Int) (i : Int) s.f0 s.f1 s.f2 s.f3) r ∧ (r = 0 ↔ RestOK (some s) (d.drop (i + 1)) (b + oldS s) (a + newS s)) := by
      intro hok
      have ho := oldS_nn hok
      have hn := newS_nn hok hsm
      have pe : prev d (i + 1) = some s := by rw [prev, hsd]
      by_cases h1 : s.f0 = 1
      · have h2 : ¬ s.f0 = 2 := by omega
        have e1 : oldS s = 0 := if_pos h1
        have e2 : newS s = (s.f3.length : Int) := by unfold newS; rw [if_neg h2, if_pos h1]
        obtain ⟨r, hr, hri⟩ := ih (i + 1) b (mn (a + (s.f3.length : Int)) 2147483648) (by omega) hb0 hb (by rw [mn_cap]; split <;> omega) (by rw [mn_cap]; split <;> omega)
        refine ⟨r, Ev.step (fun k => by
          simp only [delta_Check.j1]
          rw [if_pos h1, if_neg h2, size_is, Option.bind_some, if_pos h1, wrap_up (by omega) (by omega), w64 (by omega) (by omega)]
          rfl) hr, hri.trans ?_⟩
        rw [pe, e1, e2]
        exact rest_cap hrs (by omega) (by rw [mn_cap]; split <;> omega)
      by_cases h2 : s.f0 = 2
      · have e1 : oldS s = s.f1 := if_neg h1
        have e2 : newS s = 0 := if_pos h2
        obtain ⟨r, hr, hri⟩ := ih (i + 1) (mn (b + s.f1) 2147483648) a (by omega) (by rw [mn_cap]; split <;> omega) (by rw [mn_cap]; split <;> omega) ha0 ha
        refine ⟨r, Ev.step (fun k => by
          simp only [delta_Check.j1]
          rw [if_neg h1, if_pos h2, wrap_up (by omega) (by omega), w64 (by omega) (by omega)]
          rfl) hr, hri.trans ?_⟩
        rw [pe, e1, e2]
        exact rest_cap hrs (by rw [mn_cap]; split <;> omega) (by omega)
      · have e1 : oldS s = s.f1 := if_neg h1
        have e2 : newS s = s.f1 := by unfold newS; rw [if_neg h2, if_neg h1]
        obtain ⟨r, hr, hri⟩ := ih (i + 1) (mn (b + s.f1) 2147483648) (mn (a + s.f1) 2147483648) (by omega) (by rw [mn_cap]; split <;> omega) (by rw [mn_cap]; split <;> omega) (by rw [mn_cap]; split <;> omega) (by rw [mn_cap]; split <;> omega)
        refine ⟨r, Ev.step (fun k => by
          simp only [delta_Check.j1]
          rw [if_neg h1, if_neg h2, size_is, Option.bind_some, if_neg h1, wrap_up (by omega) (by omega), w64 (i := b + s.f1) (by omega) (by omega), w64 (by omega) (by omega)]
          rfl) hr, hri.trans ?_⟩
        rw [pe, e1, e2]
        exact rest_cap hrs (by rw [mn_cap]; split <;> omega) (by rw [mn_cap]; split <;> omega)
    have e0 : ∀ k, delta_Check.l0 (k + 1) d b a d (d.length : Int) (i : Int) = (delta_step.f k s.f0 s.f1 s.f2 s.f3).bind fun t => if t = 0 then (if (i : Int) > 0 then
        (if (rd_T70 d ((i : Int) - 1)).f0 = s.f0 then (if s.f0 = 0 then (attr_Same.f k (rd_T70 d ((i : Int) - 1)).f2 s.f2).bind fun t => (if t = true then some 5 else if (rd_T70 d ((i : Int) - 1)).f0 = 2 then (if s.f0 = 1 then some 5 else delta_Check.j1 k d b a d (d.length : Int) (i : Int) s.f0 s.f1 s.f2 s.f3) else delta_Check.j1 k d b a d (d.length : Int) (i : Int) s.f0 s.f1 s.f2 s.f3) else some 5)
         else (if (rd_T70 d ((i : Int) - 1)).f0 = 2 then (if s.f0 = 1 then some 5 else delta_Check.j1 k d b a d (d.length : Int) (i : Int) s.f0 s.f1 s.f2 s.f3) else delta_Check.j1 k d b a d (d.length : Int) (i : Int) s.f0 s.f1 s.f2 s.f3))
        else delta_Check.j1 k d b a d (d.length : Int) (i : Int) s.f0 s.f1 s.f2 s.f3) else some t := fun k => by
      simp only [delta_Check.l0]
      rw [if_pos (by omega), if_pos (by omega), if_pos (by omega), ← hsd]
      by_cases h0 : (i : Int) > 0
      · rw [wrap_dn (by omega) (by omega), if_pos (show (0 : Int) ≤ (i : Int) - 1 by omega), if_pos (show (i : Int) - 1 < (d.length : Int) by omega)]
      · simp only [if_neg h0]
    have bad : ∀ (c : Int), c ≠ 0 → Ev (fun k => delta_Check.l0 k d b a d (d.length : Int) (i : Int)) c → ¬ (StepOK s ∧ (∀ q, prev d i = some q → Adj q s) ∧ RestOK (some s) (d.drop (i + 1)) (b + oldS s) (a + newS s)) →
        ∃ r : Int, Ev (fun k => delta_Check.l0 k d b a d (d.length : Int) (i : Int)) r ∧ (r = 0 ↔ (StepOK s ∧ (∀ q, prev d i = some q → Adj q s) ∧ RestOK (some s) (d.drop (i + 1)) (b + oldS s) (a + newS s))) := fun c hc he hn => ⟨c, he, ⟨fun h => absurd h hc, fun h => absurd h hn⟩⟩
    by_cases hz : r0 = 0
    rotate_left
    · exact bad r0 hz (Ev.step e0 (Ev.bind hr0 (Ev.congr (fun k => by rw [if_neg hz]) (Ev.now r0)))) (fun h => hz (hri0.2 h.1))
    have hok := hri0.1 hz
    subst hz
    obtain ⟨r, hr, hri⟩ := j1 hok
    by_cases hi0 : i = 0
    · subst hi0
      exact ⟨r, Ev.step e0 (Ev.bind hr0 (Ev.congr (fun k => by rw [if_pos rfl, if_neg (by omega)]) hr)), hri.trans ⟨fun h => ⟨hok, (fun q hq => by cases hq), h⟩, fun h => h.2.2⟩⟩
    have hap := adj_prev (d := d) (i := i) (by omega) True
    rw [← hsd] at hap
    rw [hap] at bad ⊢
    obtain ⟨p, hp⟩ : ∃ p, p = rd_T70 d ((i : Int) - 1) := ⟨_, rfl⟩
    rw [← hp] at hap bad e0 ⊢
    have hpsm : SSm p := by
      have := hs.2 _ (rd70_mem (l := d) (i := i - 1) (by omega))
      rw [show ((i - 1 : Nat) : Int) = (i : Int) - 1 by omega, ← hp] at this
      exact this
    have good : Adj p s → (∀ k, delta_Check.l0 (k + 1) d b a d (d.length : Int) (i : Int) = (delta_step.f k s.f0 s.f1 s.f2 s.f3).bind fun t => if t = 0 then delta_Check.j1 k d b a d (d.length : Int) (i : Int) s.f0 s.f1 s.f2 s.f3 else some t) → ∃ r : Int, Ev (fun k => delta_Check.l0 k d b a d (d.length : Int) (i : Int)) r ∧ (r = 0 ↔ (StepOK s ∧ Adj p s ∧ RestOK (some s) (d.drop (i + 1)) (b + oldS s) (a + newS s))) :=
      fun h1 h2 => ⟨r, Ev.step h2 (Ev.bind hr0 (Ev.congr (fun k => by rw [if_pos rfl]) hr)), hri.trans ⟨fun h => ⟨hok, h1, h⟩, fun h => h.2.2⟩⟩
    have hpos : (i : Int) > 0 := by omega
    by_cases hk : p.f0 = s.f0
    · by_cases h0 : s.f0 = 0
      · obtain ⟨c, hc, hci⟩ := asame_ev p.f2 s.f2 hpsm.1.1
        cases c with
        | true =>
          refine bad 5 (by decide) (Ev.step e0 (Ev.bind hr0 (Ev.congr (fun k => by rw [if_pos rfl, if_pos hpos, if_pos hk, if_pos h0]) (Ev.bind hc (Ev.congr (fun k => by rw [if_pos rfl]) (Ev.now 5)))))) (fun h => h.2.1.1 ⟨hk, .inr (hci.1 rfl)⟩)
        | false =>
          have hne : p.f2 ≠ s.f2 := fun h => by have := hci.2 h; cases this
          refine ⟨r, Ev.step e0 (Ev.bind hr0 (Ev.congr (fun k => by rw [if_pos rfl, if_pos hpos, if_pos hk, if_pos h0]) (Ev.bind hc (Ev.congr (fun k => by rw [if_neg (by decide), if_neg (by omega)]) hr)))), hri.trans ⟨fun h => ⟨hok, ⟨fun h => ?_, fun h => by omega⟩, h⟩, fun h => h.2.2⟩⟩
          rcases h.2 with h | h
          · exact h h0
          · exact hne h
      · refine bad 5 (by decide) (Ev.step e0 (Ev.bind hr0 (Ev.congr (fun k => by rw [if_pos rfl, if_pos hpos, if_pos hk, if_neg h0]) (Ev.now 5)))) (fun h => h.2.1.1 ⟨hk, .inl h0⟩)
    · by_cases hc2 : p.f0 = 2 ∧ s.f0 = 1
      · refine bad 5 (by decide) (Ev.step e0 (Ev.bind hr0 (Ev.congr (fun k => by rw [if_pos rfl, if_pos hpos, if_neg hk, if_pos hc2.1, if_pos hc2.2]) (Ev.now 5)))) (fun h => h.2.1.2 hc2)
      · refine good ⟨fun h => hk h.1, hc2⟩ (fun k => ?_)
        rw [e0]
        congr 1
        funext t
        by_cases ht : t = 0
        · rw [if_pos ht, if_pos ht, if_pos hpos, if_neg hk]
          by_cases h2 : p.f0 = 2
          · rw [if_pos h2, if_neg (fun h => hc2 ⟨h2, h⟩)]
          · rw [if_neg h2]
        · rw [if_neg ht, if_neg ht]
theorem dok_rest (d : List S70) : RestOK none d 0 0 ↔ DOK d := ⟨fun h => ⟨h.1, h.2.1, by have := h.2.2.1; omega, by have := h.2.2.2; omega⟩, fun h => ⟨h.ok, h.ord, by have := h.old; omega, by have := h.new; omega⟩⟩
theorem check_ev (d : List S70) (hs : DSm d) : ∃ r : Int, Ev (fun k => delta_Check.f k d) r ∧ (r = 0 ↔ DOK d) := by
  obtain ⟨r, hr, hri⟩ := check_l0 d hs d.length 0 0 0 (by omega) (by omega) (by omega) (by omega) (by omega)
  exact ⟨r, hr, hri.trans (dok_rest d)⟩
end Go.Proofs.Ytdgemabmmomebaa.PDelta
end

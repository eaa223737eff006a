/- The characters of a string that becomes elements are the string. -/
import Derived.Test.YtdgemabmmomebaaDoorFlowA3
import Derived.Test.YtdgemabmmomebaaDoorPFlowx10
import Derived.Lib.MapLaws
import Derived.Lib.RuneBytes
import Derived.Laws.BitsLemmas
namespace Go.Proofs.YtdgemabmmomebaaDoor.PFlow
open Go.RowKit Go.Lib Go.Proofs.YtdgemabmmomebaaDoorW.PrintWords Go.Proofs.YtdgemabmmomebaaDoorW.PrintLast Go.Proofs.YtdgemabmmomebaaDoorW.PrintMore
set_option linter.unusedVariables false
set_option linter.unusedSimpArgs false

theorem rune_len (r : Int) : (encodeRuneZ r).length ≤ 4 := by
  unfold encodeRuneZ
  repeat' split
  all_goals (simp only [List.length_cons, List.length_nil]; omega)
theorem append_rune (k : Nat) (l : List Int) (r : Int) (hc : CharOK r) (hl : l.length < 140000000000000) : utf8_AppendRune.f (k + 1) l r = some (l ++ encodeRuneZ r) := by
  unfold CharOK at hc
  have hm : r % 4294967296 = r := by omega
  unfold utf8_AppendRune.f
  rw [hm]
  by_cases h1 : r ≤ 127
  · rw [if_pos h1, if_pos (by omega), encodeRuneZ_one (by omega) h1, show r % 256 = r from by omega]
  rw [if_neg h1]
  unfold utf8_appendRuneNonASCII.f
  rw [hm]
  by_cases h2 : r ≤ 2047
  · rw [if_pos h2, Option.bind_some, u8_or192 _ (by omega) (by omega), show r / 64 % 256 = r / 64 from by omega]
    simp only [List.length_cons, List.length_nil]
    rw [if_pos (by omega), Option.bind_some, encodeRuneZ_two (by omega) h2]
  rw [if_neg h2]
  have j3 : ((2048 ≤ r ∧ r < 55296) ∨ (57343 < r ∧ r ≤ 65535)) → utf8_appendRuneNonASCII.j0 (k + 1) l r r true = some (l ++ encodeRuneZ r) := by
    intro h
    rw [utf8_appendRuneNonASCII.j0, if_pos rfl, Option.bind_some, u8_or224 _ (by omega) (by omega), show r / 4096 % 256 = r / 4096 from by omega]
    simp only [List.length_cons, List.length_nil]
    rw [if_pos (by omega), encodeRuneZ_three h]
  by_cases h3 : r < 55296
  · rw [if_pos h3, decide_eq_true h3, j3 (by omega), Option.bind_some]
  rw [if_neg h3, if_pos (by omega)]
  by_cases h4 : r ≤ 65535
  · rw [decide_eq_true h4, j3 (by omega), Option.bind_some]
  · rw [decide_eq_false h4, utf8_appendRuneNonASCII.j0, if_neg (by decide), if_pos (by omega), if_pos (by omega), Option.bind_some, u8_or240 _ (by omega) (by omega), show r / 262144 % 256 = r / 262144 from by omega]
    simp only [List.length_cons, List.length_nil]
    rw [if_pos (by omega), Option.bind_some, encodeRuneZ_four (by omega) (by omega)]

/-- What Of makes of a string. -/
structure Els (attrs : List S51) (s : List UInt8) (els : List S31) : Prop where
  each : ∀ x, x ∈ els → x.f1 = 0 ∧ x.f2 = attrs ∧ CharOK x.f0
  text : els.flatMap (fun x => encodeRune x.f0) = s
  len : els.length ≤ s.length
theorem decodeGo_is (s : ByteArray) (h : s.toList ≠ []) : decodeGo s = decodeL s.toList := by
  have hz : s.size ≠ 0 := fun e => h (list_nil.2 e)
  unfold decodeGo
  rw [if_neg hz, ← decodeL_drop s 0, List.drop_zero, toList_data]
theorem extract_list (s : ByteArray) (n : Nat) : (s.extract n s.size).toList = s.toList.drop n := by
  rw [toList_data, toList_data]
  simp only [ByteArray.data_extract, Array.toList_extract, List.extract_eq_take_drop]
  rw [List.take_of_length_le]
  rw [List.length_drop, size_eq]
  exact Nat.le_refl _
theorem of_l0 (attrs : List S51) (ha : attrs.length ≤ 1048576) : ∀ (n : Nat) (s : ByteArray) (acc : List S31), s.toList.length ≤ n → acc.length + s.toList.length ≤ 1048576 →
    ∃ (r : List S31) (e : Int), Ev (fun k => flow_Of.l0 k s attrs acc) (r, e) ∧ ((e ≠ 0 ∧ r = []) ∨ (e = 0 ∧ ∃ els, r = acc ++ els ∧ Els attrs s.toList els)) := by
  intro n
  induction n with
  | zero =>
    intro s acc hn hz
    have hs : s.toList = [] := List.eq_nil_of_length_eq_zero (by omega)
    refine ⟨acc, 0, Ev.step (f := fun _ => some (acc, (0 : Int))) (fun k => ?_) (Ev.now _), .inr ⟨rfl, [], by simp, ⟨(fun x hx => by cases hx), by rw [hs]; rfl, Nat.zero_le _⟩⟩⟩
    simp only [flow_Of.l0]
    rw [if_pos hs]
  | succ n ih =>
    intro s acc hn hz
    by_cases hs : s.toList = []
    · refine ⟨acc, 0, Ev.step (f := fun _ => some (acc, (0 : Int))) (fun k => ?_) (Ev.now _), .inr ⟨rfl, [], by simp, ⟨(fun x hx => by cases hx), by rw [hs]; rfl, Nat.zero_le _⟩⟩⟩
      simp only [flow_Of.l0]
      rw [if_pos hs]
    · have hd := decodeGo_is s hs
      obtain ⟨R, hR⟩ : ∃ R, R = (decodeL s.toList).1 := ⟨_, rfl⟩
      obtain ⟨W, hW⟩ : ∃ W, W = (decodeL s.toList).2 := ⟨_, rfl⟩
      have hW1 : 1 ≤ W := by rw [hW, decodeL_N]; exact decodeN_ge1 _ _ _ _ _
      have hW2 : W ≤ s.toList.length := by rw [hW]; exact decodeL_le _ hs
      have hf : utf8_DecodeRuneInString.f s = some ((R : Int), (W : Int)) := by
        unfold utf8_DecodeRuneInString.f
        rw [hd, ← hR, ← hW]
      have e1 : ∀ k, flow_Of.l0 (k + 1) s attrs acc = flow_Of.j1 k s attrs acc (R : Int) (W : Int) (decide ((R : Int) = 65533 ∧ (W : Int) = 1)) := fun k => by
        simp only [flow_Of.l0]
        rw [if_neg hs, hf, Option.bind_some]
        by_cases h : (R : Int) = 65533
        · rw [if_pos h]
          by_cases h2 : (W : Int) = 1
          · rw [decide_eq_true ⟨h, h2⟩, show ((W : Int) == 1) = true from beq_iff_eq.mpr h2]
          · rw [decide_eq_false (fun e => h2 e.2), show ((W : Int) == 1) = false from beq_eq_false_iff_ne.mpr h2]
        · rw [if_neg h, decide_eq_false (fun e => h e.1)]
      by_cases hb : (R : Int) = 65533 ∧ (W : Int) = 1
      · refine ⟨[], 10, Ev.step e1 (Ev.step (f := fun _ => some (([] : List S31), (10 : Int))) (fun k => ?_) (Ev.now _)), .inl ⟨by decide, rfl⟩⟩
        rw [decide_eq_true hb]
        simp only [flow_Of.j1]
        rw [if_pos trivial]
      · have hcode := encode_decode s.toList hs (fun e => hb ⟨by rw [hR, e.1]; rfl, by rw [hW, e.2]; rfl⟩)
        rw [← hR, ← hW] at hcode
        have hsz : (s.size : Int) = (s.toList.length : Int) := by rw [toList_data, size_eq]
        have hRb : R ≤ 1114111 := by
          rw [hR, decodeL_N]
          exact decodeN_rune_le _ _ _ _ _ (UInt8.toNat_lt _)
        have hw : wrap64 (R : Int) = (R : Int) := by unfold wrap64; omega
        by_cases hc : CharOK (R : Int)
        · obtain ⟨r, e, hr, hor⟩ := ih (s.extract (W : Int).toNat s.size) (acc ++ [⟨(R : Int), 0, attrs⟩]) (by rw [extract_list, List.length_drop, Int.toNat_natCast]; omega) (by rw [extract_list, List.length_drop, Int.toNat_natCast]; simp only [List.length_append, List.length_cons, List.length_nil]; omega)
          refine ⟨r, e, Ev.step e1 (Ev.step (fun k => ?_) hr), ?_⟩
          · rw [decide_eq_false hb]
            simp only [flow_Of.j1]
            rw [if_neg (by decide), hw, char_is, Option.bind_some, decide_eq_true hc, if_pos rfl, if_pos (by simp only [List.length_nil]; omega), if_pos (by omega), if_pos (by omega), if_pos (by omega), List.nil_append]
          · rcases hor with h | ⟨h, els, h1, h2⟩
            · exact .inl h
            · refine .inr ⟨h, ⟨(R : Int), 0, attrs⟩ :: els, by rw [h1, List.append_assoc]; rfl, ⟨?_, ?_, ?_⟩⟩
              · intro x hx
                rcases List.mem_cons.1 hx with rfl | hx
                · exact ⟨rfl, rfl, hc⟩
                · exact h2.each x hx
              · rw [List.flatMap_cons, h2.text, extract_list, Int.toNat_natCast]
                show encodeRune (R : Int) ++ _ = _
                rw [hcode, List.take_append_drop]
              · have := h2.len
                rw [extract_list, List.length_drop, Int.toNat_natCast] at this
                simp only [List.length_cons]
                omega
        · refine ⟨[], 2, Ev.step e1 (Ev.step (f := fun _ => some (([] : List S31), (2 : Int))) (fun k => ?_) (Ev.now _)), .inl ⟨by decide, rfl⟩⟩
          rw [decide_eq_false hb]
          simp only [flow_Of.j1]
          rw [if_neg (by decide), hw, char_is, Option.bind_some, decide_eq_false hc, if_neg (by decide)]

theorem text_l0 (f : List S31) (hs : FSmall f) (he : ∀ x, x ∈ f → x.f1 = 0 ∧ CharOK x.f0) (d : Nat) : ∀ (i : Nat) (acc : List Int), i + d = f.length → acc.length ≤ 4 * i →
    Ev (fun k => flow_Text.l0 k acc f (f.length : Int) (i : Int)) (strOfNums (acc ++ (f.drop i).flatMap (fun x => encodeRuneZ x.f0)), 0) := by
  have hs1 := hs.1
  induction d with
  | zero =>
    intro i acc hi ha
    refine Ev.step (f := fun _ => some (strOfNums (acc ++ (f.drop i).flatMap (fun x => encodeRuneZ x.f0)), (0 : Int))) (fun k => ?_) (Ev.now _)
    simp only [flow_Text.l0]
    rw [if_neg (by omega), List.drop_eq_nil_of_le (by omega)]
    simp
  | succ d ih =>
    intro i acc hi ha
    have hlt : (i : Int) < (f.length : Int) := by omega
    have hm := rdf_mem (l := f) (i := (i : Int)) (by omega) hlt
    obtain ⟨h1, h2⟩ := he _ hm
    have hx : f.drop i = rd_T31 f (i : Int) :: f.drop (i + 1) := by
      rw [List.drop_eq_getElem_cons (show i < f.length by omega)]
      simp [rd_T31, List.getD_eq_getElem?_getD, List.getElem?_eq_getElem (show i < f.length by omega)]
    have hz := rune_len (rd_T31 f (i : Int)).f0
    have hw : wrap32 (rd_T31 f (i : Int)).f0 = (rd_T31 f (i : Int)).f0 := by unfold CharOK at h2; unfold wrap32; omega
    have ih := ih (i + 1) (acc ++ encodeRuneZ (rd_T31 f (i : Int)).f0) (by omega) (by rw [List.length_append]; omega)
    rw [List.append_assoc] at ih
    rw [hx, List.flatMap_cons]
    refine Ev.step (f := fun k => (utf8_AppendRune.f k acc (rd_T31 f (i : Int)).f0).bind fun t163 => flow_Text.l0 k t163 f (f.length : Int) ((i + 1 : Nat) : Int)) (fun k => ?_) (Ev.bind (Ev.step (f := fun _ => some (acc ++ encodeRuneZ (rd_T31 f (i : Int)).f0)) (fun k => append_rune k acc _ h2 (by omega)) (Ev.now _)) ih)
    simp only [flow_Text.l0]
    rw [if_pos hlt, if_pos (by omega), if_pos hlt, if_pos h1, hw, wrap_up (by omega) (by omega)]
    rfl
theorem bytes_of_runes : ∀ f : List S31, ((f.flatMap (fun x => encodeRuneZ x.f0)).map fun x => x.toNat.toUInt8) = f.flatMap (fun x => encodeRune x.f0)
  | [] => rfl
  | x :: f => by rw [List.flatMap_cons, List.flatMap_cons, List.map_append, bytes_of_runes f]; rfl
theorem text_ev (f : List S31) (hs : FSmall f) (he : ∀ x, x ∈ f → x.f1 = 0 ∧ CharOK x.f0) (hc : Ev (fun k => flow_CheckPart.f k f) 0) : Ev (fun k => flow_Text.f k f) (strOfNums (f.flatMap (fun x => encodeRuneZ x.f0)), 0) :=
  Ev.bind (f := fun k t160 => if t160 = 0 then flow_Text.l0 k ([] : List Int) f (f.length : Int) 0 else some ((⟨#[]⟩ : ByteArray), t160)) hc (Ev.congr (fun k => by rw [if_pos rfl]; rfl) (text_l0 f hs he f.length 0 [] (by omega) (Nat.zero_le _)))
theorem back_l0 (s : ByteArray) (attrs : List S51) (t : ByteArray) (f : List S31) (hs : FSmall f) (ha : attrs.length ≤ 1048576) (he : ∀ x, x ∈ f → x.f1 = 0 ∧ x.f2 = attrs) (ht : t.toList = s.toList) (hc : Ev (fun k => flow_CheckPart.f k f) 0) (d : Nat) : ∀ i : Int, 0 ≤ i → (f.length : Int) - i = d →
    Ev (fun k => chancerykeep1_FlowTextBack.l0 k s attrs f t 0 f (f.length : Int) i) true := by
  have hs1 := hs.1
  induction d with
  | zero =>
    intro i h0 hd
    refine Ev.step (f := fun k => (flow_CheckPart.f k f).bind fun t251 => some (t251 == 0)) (fun k => ?_) (Ev.bind hc (Ev.now _))
    simp only [chancerykeep1_FlowTextBack.l0]
    rw [if_neg (by omega), if_pos trivial, if_pos ht]
  | succ d ih =>
    intro i h0 hd
    have hlt : i < (f.length : Int) := by omega
    obtain ⟨h1, h2⟩ := he _ (rdf_mem (l := f) h0 hlt)
    refine Ev.step (f := fun k => (chanceryref1_SameAttrs.f k attrs attrs).bind fun t250 => if t250 = true then chancerykeep1_FlowTextBack.l0 k s attrs f t 0 f (f.length : Int) (i + 1) else some false) (fun k => ?_)
      (Ev.bind (same_attrs_ev attrs (by omega)) (Ev.congr (fun k => by rw [if_pos rfl]) (ih (i + 1) (by omega) (by omega))))
    simp only [chancerykeep1_FlowTextBack.l0]
    rw [if_pos hlt, if_pos h0, if_pos hlt, h2, h1, wrap_up h0 (by omega)]
    simp only [↓reduceIte]
theorem back_law (s : ByteArray) (attrs : List S51) (hs : s.size ≤ 1048576) (ha : Small attrs ∧ attrs.length ≤ 1048576) : ∃ k, chancerykeep1_FlowTextBack.f k s attrs = some true := by
  have hsl : s.toList.length ≤ 1048576 := by rw [size_list]; exact hs
  have nilS : FSmall [] := ⟨by decide, fun x hx => by cases hx⟩
  obtain ⟨c0, hc0, hci0⟩ := part_ev [] nilS
  have hc00 : c0 = 0 := hci0.2 (fun j h1 h2 => absurd h2 (by simp only [List.length_nil]; omega))
  subst hc00
  have nilT := text_ev [] nilS (fun x hx => by cases hx) hc0
  refine Ev.rounds (g := fun k => chancerykeep1_FlowTextBack.f k s attrs) ?_
  unfold chancerykeep1_FlowTextBack.f
  refine Ev.bind flows_ev (Ev.congr (f := fun k => ((flow_Of.f k s attrs).bind fun bt242 => ((flow_Text.f k bt242.1).bind fun bt246 => (if bt242.2 = 0 then (chancerykeep1_FlowTextBack.l0 k s attrs bt242.1 bt246.1 bt246.2 bt242.1 (bt242.1.length : Int) 0) else (some ((bt242.1.length : Int) == 0)))))) (fun k => by rw [if_pos rfl]) ?_)
  obtain ⟨a, hca, hai⟩ := chk_ev attrs ha.1
  have bad : ∀ e : Int, e ≠ 0 → Ev (fun k => flow_Of.f k s attrs) (([] : List S31), e) → Ev (fun k => ((flow_Of.f k s attrs).bind fun bt242 => ((flow_Text.f k bt242.1).bind fun bt246 => (if bt242.2 = 0 then (chancerykeep1_FlowTextBack.l0 k s attrs bt242.1 bt246.1 bt246.2 bt242.1 (bt242.1.length : Int) 0) else (some ((bt242.1.length : Int) == 0)))))) true := by
    intro e he h
    refine Ev.bind h (Ev.bind nilT (Ev.congr (fun k => ?_) (Ev.now true)))
    rw [if_neg he]
    rfl
  by_cases h : a = 0
  · subst h
    have hA := hai.1 rfl
    obtain ⟨r, e, hr, hor⟩ := of_l0 attrs ha.2 s.toList.length s [] (Nat.le_refl _) (by simp only [List.length_nil]; omega)
    have hOf : Ev (fun k => flow_Of.f k s attrs) (r, e) :=
      Ev.bind (f := fun k t107 => if t107 = 0 then flow_Of.l0 k s attrs ([] : List S31) else some (([] : List S31), t107)) hca (Ev.congr (fun k => by rw [if_pos rfl]) hr)
    rcases hor with ⟨he, rfl⟩ | ⟨rfl, els, h1, h2⟩
    · exact bad e he hOf
    · rw [List.nil_append] at h1
      subst h1
      have hl := h2.len
      have hF : FSmall r := ⟨by omega, fun x hx => by rw [(h2.each x hx).2.1]; exact ha⟩
      obtain ⟨c, hc, hci⟩ := part_ev r hF
      have hc1 : c = 0 := hci.2 (fun j j0 j1 => by
        obtain ⟨a1, a2, a3⟩ := h2.each _ (rdf_mem (l := r) j0 j1)
        exact ⟨.inr ⟨a1, a3⟩, by rw [a2]; exact hA⟩)
      subst hc1
      have hT := text_ev r hF (fun x hx => ⟨(h2.each x hx).1, (h2.each x hx).2.2⟩) hc
      refine Ev.bind hOf (Ev.bind hT (Ev.congr (fun k => by rw [if_pos rfl]) (back_l0 s attrs _ r hF ha.2 (fun x hx => ⟨(h2.each x hx).1, (h2.each x hx).2.1⟩) ?_ hc r.length 0 (Int.le_refl _) (by omega))))
      rw [toList_data, strOfNums_data]
      exact (bytes_of_runes r).trans h2.text
  · refine bad a h (Ev.bind (f := fun k t107 => if t107 = 0 then flow_Of.l0 k s attrs ([] : List S31) else some (([] : List S31), t107)) hca (Ev.congr (fun k => by rw [if_neg h]) (Ev.now _)))
end Go.Proofs.YtdgemabmmomebaaDoor.PFlow

/- The three laws of attributes, told of the printed functions: lists of at most 2^20 attributes, strings shorter than 2^40. -/
import Derived.Test.YtdgemabmmomebaaAttrPure3
namespace Go.Proofs.Ytdgemabmmomebaa.PAttr
open Go.RowKit Go.Proofs.YtdgemabmmomebaaW.PrintWords Go.Proofs.YtdgemabmmomebaaW.PrintLast Go.Proofs.YtdgemabmmomebaaW.PrintMore
set_option linter.unusedVariables false

def rawE (x y : S38) : Option S38 := if y.f0.toList = [] then some x else if y.f1.toList = [] then none else some y
def changeE (x y : S38) : Option S38 := if y.f0.toList = [] then some ⟨x.f0, ⟨#[]⟩⟩ else if x.f0.toList = y.f0.toList ∧ x.f1.toList = y.f1.toList then none else some y
def withoutE (x y : S38) : Option S38 := if y.f0.toList = [] then some x else none
def bothE (x y : S38) : Option S38 := some (if y.f0.toList = [] then x else y)
def Fr : Option Bs → Option Bs → Option Bs
  | u, none => u
  | _, some v => if v = [] then none else some v
def Fc : Option Bs → Option Bs → Option Bs
  | none, v => v
  | some _, none => some []
  | some u, some v => if u = v then none else some v
def Fw : Option Bs → Option Bs → Option Bs
  | u, none => u
  | _, some _ => none
def Fb : Option Bs → Option Bs → Option Bs
  | u, none => u
  | _, some v => some v
theorem nil_name : nil38.f0.toList = [] := list_nil.2 rfl
theorem nil_list : (⟨#[]⟩ : ByteArray).toList = [] := list_nil.2 rfl
theorem raw_tells : Tells rawE Fr where
  nil := rfl
  left x hx := by
    have : rawE x nil38 = some x := by unfold rawE; rw [if_pos nil_name]
    rw [this]
    exact ⟨fun z hz => by rw [Option.some.inj hz], rfl⟩
  right y hy := by
    unfold rawE Fr
    rw [if_neg hy]
    by_cases e : y.f1.toList = []
    · rw [if_pos e]; exact ⟨(fun z hz => by cases hz), by simp [e]⟩
    · rw [if_neg e]; exact ⟨(fun z hz => by rw [Option.some.inj hz]), by simp [e]⟩
  mid x y h hx := by
    unfold rawE Fr
    rw [if_neg (by rw [← h]; exact hx)]
    by_cases e : y.f1.toList = []
    · rw [if_pos e]; exact ⟨(fun z hz => by cases hz), by simp [e]⟩
    · rw [if_neg e]; exact ⟨(fun z hz => by rw [← Option.some.inj hz]; exact (ba_ext h).symm), by simp [e]⟩
theorem change_tells : Tells changeE Fc where
  nil := rfl
  left x hx := by
    unfold changeE
    rw [if_pos nil_name]
    exact ⟨(fun z hz => by rw [← Option.some.inj hz]), by simp [Fc]⟩
  right y hy := by
    unfold changeE
    rw [if_neg hy, if_neg (fun h => hy (by rw [← h.1]; exact nil_name))]
    exact ⟨(fun z hz => by rw [Option.some.inj hz]), rfl⟩
  mid x y h hx := by
    unfold changeE Fc
    rw [if_neg (by rw [← h]; exact hx)]
    by_cases e : x.f1.toList = y.f1.toList
    · rw [if_pos ⟨h, e⟩]; exact ⟨(fun z hz => by cases hz), by simp [e]⟩
    · rw [if_neg (fun h' => e h'.2)]; exact ⟨(fun z hz => by rw [← Option.some.inj hz]; exact (ba_ext h).symm), by simp [e]⟩
theorem without_tells : Tells withoutE Fw where
  nil := rfl
  left x hx := by
    unfold withoutE
    rw [if_pos nil_name]
    exact ⟨(fun z hz => by rw [Option.some.inj hz]), rfl⟩
  right y hy := by
    unfold withoutE
    rw [if_neg hy]
    exact ⟨(fun z hz => by cases hz), rfl⟩
  mid x y h hx := by
    unfold withoutE
    rw [if_neg (by rw [← h]; exact hx)]
    exact ⟨(fun z hz => by cases hz), rfl⟩
theorem both_tells : Tells bothE Fb where
  nil := rfl
  left x hx := by
    unfold bothE
    rw [if_pos nil_name]
    exact ⟨(fun z hz => by rw [Option.some.inj hz]), rfl⟩
  right y hy := by
    unfold bothE
    rw [if_neg hy]
    exact ⟨(fun z hz => by rw [Option.some.inj hz]), rfl⟩
  mid x y h hx := by
    unfold bothE
    rw [if_neg (by rw [← h]; exact hx)]
    exact ⟨(fun z hz => by rw [← Option.some.inj hz]; exact (ba_ext h).symm), rfl⟩

/-- A value that a valid list may have. -/
def VL (ch : Bool) (w : Bs) : Prop := ∃ s : ByteArray, s.toList = w ∧ (ValOK s ∨ (ch = true ∧ s.size = 0))
def OV (ch : Bool) (u : Option Bs) : Prop := ∀ w, u = some w → VL ch w
theorem VL.ne {w : Bs} (h : VL false w) : w ≠ [] := by
  obtain ⟨s, rfl, h | ⟨h, _⟩⟩ := h
  · intro e; have := list_nil.1 e; have := h.1; omega
  · cases h
theorem VL.mono {ch : Bool} {w : Bs} (h : VL false w) : VL ch w := by
  obtain ⟨s, e, h | ⟨h, _⟩⟩ := h
  · exact ⟨s, e, .inl h⟩
  · cases h
theorem VL.strict {ch : Bool} {w : Bs} (h : VL ch w) (hw : w ≠ []) : VL false w := by
  obtain ⟨s, e, h | ⟨_, h⟩⟩ := h
  · exact ⟨s, e, .inl h⟩
  · exact absurd (e ▸ list_nil.2 h) hw
theorem ov_look {ch : Bool} {l : List S38} (h : VA ch l) (n : Bs) : OV ch (look l n) := by
  intro w hw
  obtain ⟨x, hx, _, e⟩ := look_some hw
  exact ⟨x.f1, e, (h.1 x hx).2⟩
theorem va_named {ch : Bool} {l : List S38} (h : VA ch l) : Named l := fun x hx e => by
  have := (h.1 x hx).1.1
  have := list_nil.1 e
  omega
theorem va_mrg {E : S38 → S38 → Option S38} {F : Option Bs → Option Bs → Option Bs} (T : Tells E F) {c1 c2 ch : Bool} {a b : List S38} (ha : VA c1 a) (hb : VA c2 b)
    (hF : ∀ u v, OV c1 u → OV c2 v → OV ch (F u v)) : VA ch (mrg E a b) := by
  obtain ⟨h1, h2, h3⟩ := mrg_spec T a b ha.2 hb.2 (va_named ha) (va_named hb)
  refine ⟨fun z hz => ⟨?_, ?_⟩, h1⟩
  · rcases h3 z hz with ⟨x, hx, e⟩ | ⟨x, hx, e⟩
    · rw [e]; exact (ha.1 x hx).1
    · rw [e]; exact (hb.1 x hx).1
  · have := look_mem h1 hz
    rw [h2] at this
    obtain ⟨s, hs, hv⟩ := hF _ _ (ov_look ha _) (ov_look hb _) _ this
    rw [← ba_ext hs]
    exact hv
theorem ov_raw {c : Bool} {u v : Option Bs} (hu : OV false u) (hv : OV c v) : OV false (Fr u v) := by
  intro w hw
  cases v with
  | none => exact hu w hw
  | some v =>
    simp only [Fr] at hw
    by_cases e : v = []
    · rw [if_pos e] at hw; cases hw
    · rw [if_neg e] at hw
      obtain rfl := Option.some.inj hw
      exact (hv v rfl).strict e
theorem ov_change {u v : Option Bs} (hu : OV false u) (hv : OV false v) : OV true (Fc u v) := by
  intro w hw
  cases u with
  | none => exact (hv w hw).mono
  | some u =>
    cases v with
    | none =>
      obtain rfl := Option.some.inj hw
      exact ⟨⟨#[]⟩, nil_list, .inr ⟨rfl, rfl⟩⟩
    | some v =>
      simp only [Fc] at hw
      by_cases e : u = v
      · rw [if_pos e] at hw; cases hw
      · rw [if_neg e] at hw
        obtain rfl := Option.some.inj hw
        exact (hv v rfl).mono
theorem ov_without {u v : Option Bs} (hu : OV true u) (hv : OV true v) : OV true (Fw u v) := by
  intro w hw
  cases v with
  | none => exact hu w hw
  | some v => cases hw
theorem ov_both {u v : Option Bs} (hu : OV true u) (hv : OV true v) : OV true (Fb u v) := by
  intro w hw
  cases v with
  | none => exact hu w hw
  | some v => exact hv w hw
/-- A change and then what leads back. -/
theorem fr_fc {M L : Option Bs} (hL : OV false L) : Fr M (Fc M L) = L := by
  cases L with
  | none => cases M <;> rfl
  | some v =>
    have hv := (hL v rfl).ne
    cases M with
    | none => simp only [Fc, Fr]; rw [if_neg hv]
    | some u =>
      simp only [Fc]
      by_cases e : u = v
      · rw [if_pos e, e]; rfl
      · rw [if_neg e]; simp only [Fr]; rw [if_neg hv]

/-! ### the functions -/
def Len (l : List S38) (n : Nat) : Prop := l.length ≤ n
theorem fold_mrg {V : List S38 → S38 → S38 → List S38} {E : S38 → S38 → Option S38} (h : ∀ o x y, V o x y = o ++ (E x y).toList) (a b : List S38) : bothL V [] a b = mrg E a b := by rw [bothL_mrg V E h, List.nil_append]
theorem rawV_E (o : List S38) (x y : S38) : rawV o x y = o ++ (rawE x y).toList := by
  unfold rawV rawE
  by_cases h1 : y.f0.toList = []
  · rw [if_pos h1, if_pos h1]; rfl
  · rw [if_neg h1, if_neg h1]
    by_cases h2 : y.f1.toList = []
    · rw [if_pos h2, if_pos h2]; exact (List.append_nil _).symm
    · rw [if_neg h2, if_neg h2]; rfl
theorem changeV_E (o : List S38) (x y : S38) : changeV o x y = o ++ (changeE x y).toList := by
  unfold changeV changeE
  by_cases h1 : y.f0.toList = []
  · rw [if_pos h1, if_pos h1]; rfl
  · rw [if_neg h1, if_neg h1]
    by_cases h2 : x.f0.toList = y.f0.toList ∧ x.f1.toList = y.f1.toList
    · rw [if_pos h2, if_pos h2]; exact (List.append_nil _).symm
    · rw [if_neg h2, if_neg h2]; rfl
theorem withoutV_E (o : List S38) (x y : S38) : withoutV o x y = o ++ (withoutE x y).toList := by
  unfold withoutV withoutE
  by_cases h1 : y.f0.toList = []
  · rw [if_pos h1, if_pos h1]; rfl
  · rw [if_neg h1, if_neg h1]; exact (List.append_nil _).symm
theorem bothV_E (o : List S38) (x y : S38) : bothV o x y = o ++ (bothE x y).toList := rfl
theorem raw_f {a b : List S38} (ha : a.length ≤ 1073741824) (hb : b.length ≤ 1073741824) : attr_Raw.f a b = some (mrg rawE a b) := by
  unfold attr_Raw.f; rw [if_pos (by omega), fold_mrg rawV_E]
theorem change_f {a b : List S38} (ha : a.length ≤ 1073741824) (hb : b.length ≤ 1073741824) : attr_Change.f a b = some (mrg changeE a b) := by
  unfold attr_Change.f; rw [if_pos (by omega), fold_mrg changeV_E]
theorem without_f {a b : List S38} (ha : a.length ≤ 1073741824) (hb : b.length ≤ 1073741824) : attr_Without.f a b = some (mrg withoutE a b) := by
  unfold attr_Without.f; rw [if_pos (by omega), fold_mrg withoutV_E]
theorem both_f {a b : List S38} (ha : a.length ≤ 1073741824) (hb : b.length ≤ 1073741824) : attr_Both.f a b = some (mrg bothE a b) := by
  unfold attr_Both.f; rw [if_pos (by omega), fold_mrg bothV_E]
theorem apply_ev {l c : List S38} (hl : l.length ≤ 1073741824) (hc : c.length ≤ 1073741824) (vl : VA false l) (vc : VA true c) : Ev (fun k => attr_Apply.f k l c) (mrg rawE l c, 0) := by
  refine Ev.bind (check_ev l (by omega) vl) (Ev.congr (fun k => by rw [if_pos (by decide)]) (Ev.bind (checkc_ev c (by omega) vc) (Ev.congr (fun k => ?_) (Ev.now _))))
  rw [if_pos (by decide), raw_f hl hc]
  rfl
theorem va_raw {l c : List S38} (vl : VA false l) (vc : VA true c) : VA false (mrg rawE l c) := va_mrg raw_tells vl vc (fun _ _ => ov_raw)
theorem va_change {a b : List S38} (va : VA false a) (vb : VA false b) : VA true (mrg changeE a b) := va_mrg change_tells va vb (fun _ _ => ov_change)
theorem va_without {a b : List S38} (va : VA true a) (vb : VA true b) : VA true (mrg withoutE a b) := va_mrg without_tells va vb (fun _ _ => ov_without)
theorem va_both {a b : List S38} (va : VA true a) (vb : VA true b) : VA true (mrg bothE a b) := va_mrg both_tells va vb (fun _ _ => ov_both)
theorem look_raw {l c : List S38} (vl : VA false l) (vc : VA true c) (n : Bs) : look (mrg rawE l c) n = Fr (look l n) (look c n) := (mrg_spec raw_tells l c vl.2 vc.2 (va_named vl) (va_named vc)).2.1 n
theorem look_change {a b : List S38} (va : VA false a) (vb : VA false b) (n : Bs) : look (mrg changeE a b) n = Fc (look a n) (look b n) := (mrg_spec change_tells a b va.2 vb.2 (va_named va) (va_named vb)).2.1 n
theorem look_without {a b : List S38} (va : VA true a) (vb : VA true b) (n : Bs) : look (mrg withoutE a b) n = Fw (look a n) (look b n) := (mrg_spec without_tells a b va.2 vb.2 (va_named va) (va_named vb)).2.1 n
theorem look_both {a b : List S38} (va : VA true a) (vb : VA true b) (n : Bs) : look (mrg bothE a b) n = Fb (look a n) (look b n) := (mrg_spec both_tells a b va.2 vb.2 (va_named va) (va_named vb)).2.1 n
theorem lead_back {m l : List S38} (vm : VA false m) (vl : VA false l) : mrg rawE m (mrg changeE m l) = l :=
  look_ext (va_raw vm (va_change vm vl)).2 vl.2 (fun n => by rw [look_raw vm (va_change vm vl), look_change vm vl, fr_fc (ov_look vl n)])

/-- What the statement takes of its arguments. -/
def Fine (l : List S38) : Prop := l.length ≤ 1048576 ∧ ∀ x ∈ l, x.f0.size ≤ 1048576 ∧ x.f1.size ≤ 1048576
theorem Fine.small {l : List S38} (h : Fine l) : Small l := ⟨by have := h.1; omega, fun x hx => by have := h.2 x hx; omega⟩

theorem undo_law (l c : List S38) (hl : Fine l) (hc : Fine c) : ∃ k, chancerykeep1_AttrUndoRestores.f k l c = some true := by
  obtain ⟨r, hr, hv⟩ := rerr_ev l false hl.small
  obtain ⟨r', hr', hv'⟩ := rerr_ev c true hc.small
  have h1 := hl.1
  have h2 := hc.1
  refine Ev.rounds (Ev.bind attrs_ev (Ev.congr (fun k => by rw [if_pos (by decide)]) (Ev.bind hr ?_)))
  by_cases e : r = 0
  · refine Ev.congr (fun k => by rw [if_pos e]) (Ev.bind hr' ?_)
    by_cases e' : r' = 0
    · subst e e'
      have vl := hv rfl
      have vc := hv' rfl
      have m1 := mrg_len rawE l c
      have m2 := mrg_len changeE (mrg rawE l c) l
      have vm := va_raw vl vc
      refine Ev.step (fun k => by simp only [chancerykeep1_AttrUndoRestores.j0]; rw [if_neg (by decide)]) ?_
      refine Ev.bind (apply_ev (by omega) (by omega) vl vc) ?_
      have hu : Ev (fun k => attr_Undo.f k l c) (mrg changeE (mrg rawE l c) l, 0) := by
        refine Ev.bind (apply_ev (by omega) (by omega) vl vc) (Ev.congr (fun k => ?_) (Ev.now _))
        rw [if_pos rfl, change_f (a := mrg rawE l c) (b := l) (by omega) (by omega)]
        rfl
      refine Ev.bind hu (Ev.bind (apply_ev (l := mrg rawE l c) (c := mrg changeE (mrg rawE l c) l) (by omega) (by omega) vm (va_change vm vl)) (Ev.congr (fun k => by rw [if_pos rfl, if_pos rfl, if_pos rfl]) (Ev.bind ?_ (Ev.now true))))
      show Ev (fun k => chanceryref1_SameAttrs.f k (mrg rawE (mrg rawE l c) (mrg changeE (mrg rawE l c) l)) l) true
      rw [lead_back vm vl]
      exact same_ev l (by omega)
    · refine Ev.step (fun k => ?_) (Ev.now true)
      simp only [chancerykeep1_AttrUndoRestores.j0]
      rw [if_pos (by simpa using e')]
  · refine Ev.congr (fun k => by rw [if_neg e]) (Ev.step (fun k => ?_) (Ev.now true))
    simp only [chancerykeep1_AttrUndoRestores.j0]
    rw [if_pos (by decide)]

theorem get_ev (l : List S38) (s : ByteArray) (hl : l.length ≤ 1099511627776) : ∃ r : ByteArray, Ev (fun k => attr_Get.f k l s) r ∧ r.toList = (look l s.toList).getD [] := by
  have H : ∀ (d : Nat) (i : Int), 0 ≤ i → i ≤ l.length → (l.length : Int) - i = d → ∃ r : ByteArray, Ev (fun k => attr_Get.l0 k s l (l.length : Int) i) r ∧ r.toList = (look (l.drop i.toNat) s.toList).getD [] := by
    intro d
    induction d with
    | zero =>
      intro i h0 h1 hd
      refine ⟨⟨#[]⟩, Ev.step (f := fun _ => some ⟨#[]⟩) (fun k => ?_) (Ev.now _), ?_⟩
      · simp only [attr_Get.l0]
        rw [if_neg (by omega)]
      · rw [List.drop_eq_nil_of_le (by omega)]
        exact nil_list
    | succ d ih =>
      intro i h0 h1 hd
      have hlt : i < (l.length : Int) := by omega
      have hdrop : l.drop i.toNat = rd_T38 l i :: l.drop (i + 1).toNat := by
        rw [List.drop_eq_getElem_cons (by omega), show (i + 1).toNat = i.toNat + 1 by omega]
        simp [rd_T38, List.getD_eq_getElem?_getD, List.getElem?_eq_getElem (show i.toNat < l.length by omega)]
      by_cases e : (rd_T38 l i).f0.toList = s.toList
      · refine ⟨(rd_T38 l i).f1, Ev.step (f := fun _ => some (rd_T38 l i).f1) (fun k => ?_) (Ev.now _), ?_⟩
        · simp only [attr_Get.l0]
          rw [if_pos hlt, if_pos h0, if_pos hlt, if_pos e]
        · rw [hdrop, look, if_pos e]; rfl
      · obtain ⟨r, hr, he⟩ := ih (i + 1) (by omega) (by omega) (by omega)
        refine ⟨r, Ev.step (fun k => ?_) hr, ?_⟩
        · simp only [attr_Get.l0]
          rw [if_pos hlt, if_pos h0, if_pos hlt, if_neg e, wrap_up h0 (by omega)]
        · rw [hdrop, look, if_neg e]; exact he
  obtain ⟨r, hr, he⟩ := H l.length 0 (by omega) (by omega) (by omega)
  exact ⟨r, hr, he⟩

theorem between_law (a b : List S38) (ha : Fine a) (hb : Fine b) : ∃ k, chancerykeep1_AttrBetweenLeads.f k a b = some true := by
  obtain ⟨r, hr, hv⟩ := rerr_ev a false ha.small
  obtain ⟨r', hr', hv'⟩ := rerr_ev b false hb.small
  have h1 := ha.1
  have h2 := hb.1
  refine Ev.rounds (Ev.bind attrs_ev (Ev.congr (fun k => by rw [if_pos (by decide)]) (Ev.bind hr ?_)))
  by_cases e : r = 0
  · refine Ev.congr (fun k => by rw [if_pos e]) (Ev.bind hr' ?_)
    by_cases e' : r' = 0
    · subst e e'
      have va := hv rfl
      have vb := hv' rfl
      have m1 := mrg_len changeE a b
      have vc := va_change va vb
      refine Ev.step (fun k => by simp only [chancerykeep1_AttrBetweenLeads.j0]; rw [if_neg (by decide)]) ?_
      have hbt : Ev (fun k => attr_Between.f k a b) (mrg changeE a b, 0) := by
        refine Ev.bind (check_ev a (by omega) va) (Ev.congr (fun k => by rw [if_pos (by decide)]) (Ev.bind (check_ev b (by omega) vb) (Ev.congr (fun k => ?_) (Ev.now _))))
        rw [if_pos (by decide), change_f (by omega) (by omega)]
        rfl
      refine Ev.bind hbt (Ev.bind (apply_ev (l := a) (c := mrg changeE a b) (by omega) (by omega) va vc) ?_)
      have H : ∀ (d : Nat) (i : Int), 0 ≤ i → i ≤ (mrg changeE a b).length → ((mrg changeE a b).length : Int) - i = d →
          Ev (fun k => chancerykeep1_AttrBetweenLeads.l0 k a b 0 (mrg rawE a (mrg changeE a b)) 0 (mrg changeE a b) ((mrg changeE a b).length : Int) i) true := by
        intro d
        induction d with
        | zero =>
          intro i h0 h1 hd
          refine Ev.step (fun k => by simp only [chancerykeep1_AttrBetweenLeads.l0]; rw [if_neg (by omega), if_pos (by decide), if_pos (by decide)]) (Ev.bind ?_ (Ev.now true))
          rw [lead_back va vb]
          exact same_ev b (by omega)
        | succ d ih =>
          intro i h0 h1 hd
          have hlt : i < ((mrg changeE a b).length : Int) := by omega
          obtain ⟨u, hu, eu⟩ := get_ev a (rd_T38 (mrg changeE a b) i).f0 (by omega)
          obtain ⟨v, hv, ev⟩ := get_ev b (rd_T38 (mrg changeE a b) i).f0 (by omega)
          have hne : ¬ u.toList = v.toList := by
            rw [eu, ev]
            have hm := look_mem vc.2 (rd_mem h0 hlt)
            rw [look_change va vb] at hm
            revert hm
            have oa := ov_look va (rd_T38 (mrg changeE a b) i).f0.toList
            have ob := ov_look vb (rd_T38 (mrg changeE a b) i).f0.toList
            cases ea : look a (rd_T38 (mrg changeE a b) i).f0.toList with
            | none =>
              cases eb : look b (rd_T38 (mrg changeE a b) i).f0.toList with
              | none => intro hm; cases hm
              | some q => intro _ h; exact (ob q eb).ne h.symm
            | some p =>
              cases eb : look b (rd_T38 (mrg changeE a b) i).f0.toList with
              | none => intro _ h; exact (oa p ea).ne h
              | some q =>
                intro hm h
                have h' : p = q := h
                simp only [Fc] at hm
                rw [if_pos h'] at hm
                cases hm
          refine Ev.step (fun k => by simp only [chancerykeep1_AttrBetweenLeads.l0]; rw [if_pos hlt, if_pos h0, if_pos hlt]) ?_
          exact Ev.bind hu (Ev.bind hv (Ev.congr (fun k => by rw [if_neg hne, wrap_up h0 (by omega)]) (ih (i + 1) (by omega) (by omega) (by omega))))
      exact H (mrg changeE a b).length 0 (by omega) (by omega) (by omega)
    · refine Ev.step (fun k => ?_) (Ev.now true)
      simp only [chancerykeep1_AttrBetweenLeads.j0]
      rw [if_pos (by simpa using e')]
  · refine Ev.congr (fun k => by rw [if_neg e]) (Ev.step (fun k => ?_) (Ev.now true))
    simp only [chancerykeep1_AttrBetweenLeads.j0]
    rw [if_pos (by decide)]

theorem fr_one (L A B : Option Bs) : Fr (Fr L A) B = Fr (Fr L B) (Fw A B) := by cases B <;> rfl
theorem fr_all (L A B : Option Bs) : Fr L (Fb A B) = Fr (Fr L A) B := by cases B <;> rfl

theorem pair_law (l a b : List S38) (hl : Fine l) (ha : Fine a) (hb : Fine b) : ∃ k, chancerykeep1_AttrPairMeets.f k l a b = some true := by
  obtain ⟨r, hr, hv⟩ := rerr_ev l false hl.small
  obtain ⟨r', hr', hv'⟩ := rerr_ev a true ha.small
  obtain ⟨r'', hr'', hv''⟩ := rerr_ev b true hb.small
  have h1 := hl.1
  have h2 := ha.1
  have h3 := hb.1
  refine Ev.rounds (Ev.bind attrs_ev (Ev.congr (fun k => by rw [if_pos (by decide)]) (Ev.bind hr ?_)))
  by_cases e : r = 0
  · refine Ev.congr (fun k => by rw [if_pos e]) (Ev.bind hr' ?_)
    by_cases e' : r' = 0
    · refine Ev.congr (fun k => by rw [if_pos e']) (Ev.bind hr'' ?_)
      by_cases e'' : r'' = 0
      · subst e e' e''
        have vl := hv rfl
        have va := hv' rfl
        have vb := hv'' rfl
        have m1 := mrg_len rawE l a
        have m2 := mrg_len rawE l b
        have m3 := mrg_len withoutE a b
        have m4 := mrg_len bothE a b
        have vw := va_without va vb
        have vt := va_both va vb
        have vla := va_raw vl va
        have vlb := va_raw vl vb
        refine Ev.step (fun k => by simp only [chancerykeep1_AttrPairMeets.j0]; rw [if_neg (by decide)]) ?_
        have hp : Ev (fun k => attr_Pair.f k a b) (mrg withoutE a b, b, 0) := by
          refine Ev.bind (checkc_ev a (by omega) va) (Ev.congr (fun k => by rw [if_pos (by decide)]) (Ev.bind (checkc_ev b (by omega) vb) (Ev.congr (fun k => ?_) (Ev.now _))))
          rw [if_pos (by decide), without_f (by omega) (by omega)]
          show (if ([] : List S38).length + b.length < 4398046511104 then _ else _) = _
          rw [if_pos (by simp; omega)]
          rfl
        have hj : Ev (fun k => attr_Join.f k a b) (mrg bothE a b, 0) := by
          refine Ev.bind (checkc_ev a (by omega) va) (Ev.congr (fun k => by rw [if_pos (by decide)]) (Ev.bind (checkc_ev b (by omega) vb) (Ev.congr (fun k => ?_) (Ev.now _))))
          rw [if_pos (by decide), both_f (by omega) (by omega)]
          rfl
        have m5 := mrg_len rawE (mrg rawE l a) b
        have m6 := mrg_len rawE l (mrg bothE a b)
        have q1 : mrg rawE (mrg rawE l a) b = mrg rawE (mrg rawE l b) (mrg withoutE a b) :=
          look_ext (va_raw vla vb).2 (va_raw vlb vw).2 (fun n => by rw [look_raw vla vb, look_raw vlb vw, look_raw vl va, look_raw vl vb, look_without va vb, fr_one])
        have q2 : mrg rawE l (mrg bothE a b) = mrg rawE (mrg rawE l a) b :=
          look_ext (va_raw vl vt).2 (va_raw vla vb).2 (fun n => by rw [look_raw vla vb, look_raw vl vt, look_raw vl va, look_both va vb, fr_all])
        refine Ev.bind hp (Ev.bind (apply_ev (by omega) (by omega) vl va) (Ev.bind (apply_ev (by omega) (by omega) vl vb) (Ev.bind (apply_ev (c := b) (by show (mrg rawE l a).length ≤ _; omega) (by omega) vla vb) (Ev.bind (apply_ev (l := mrg rawE l b) (c := mrg withoutE a b) (by omega) (by omega) vlb vw) (Ev.bind hj (Ev.bind (apply_ev (l := l) (c := mrg bothE a b) (by omega) (by omega) vl vt) (Ev.bind (apply_ev (l := mrg rawE l a) (c := b) (by omega) (by omega) vla vb) ?_)))))))
        refine Ev.congr (fun k => by rw [if_pos rfl, if_pos rfl]) (Ev.bind (a := true) ?_ (Ev.congr (fun k => by rw [if_pos (by decide)]) (Ev.bind (a := true) ?_ (Ev.now true))))
        · show Ev (fun k => chanceryref1_SameAttrs.f k (mrg rawE (mrg rawE l a) b) (mrg rawE (mrg rawE l b) (mrg withoutE a b))) true
          rw [← q1]
          exact same_ev _ (by omega)
        · show Ev (fun k => chanceryref1_SameAttrs.f k (mrg rawE l (mrg bothE a b)) (mrg rawE (mrg rawE l a) b)) true
          rw [← q2]
          exact same_ev _ (by omega)
      · refine Ev.step (fun k => ?_) (Ev.now true)
        simp only [chancerykeep1_AttrPairMeets.j0]
        rw [if_pos (by simpa using e'')]
    · refine Ev.congr (fun k => by rw [if_neg e']) (Ev.step (fun k => ?_) (Ev.now true))
      simp only [chancerykeep1_AttrPairMeets.j0]
      rw [if_pos (by decide)]
  · refine Ev.congr (fun k => by rw [if_neg e]) (Ev.step (fun k => ?_) (Ev.now true))
    simp only [chancerykeep1_AttrPairMeets.j0]
    rw [if_pos (by decide)]
end Go.Proofs.Ytdgemabmmomebaa.PAttr

/- The order of strings in one spelling: whatever Go asks of two strings is told by 'the first is less than the second'. -/
import Derived.Laws.Strings
namespace Go.Proofs.YtdgemabmmomebaaDoor.Ord
theorem less_irrefl (x : List UInt8) : Op.bytesLess x x = false := by
  induction x with
  | nil => rfl
  | cons a x ih => simp [Op.bytesLess, ih, UInt8.lt_irrefl]
theorem less_trans {x y z : List UInt8} : Op.bytesLess x y = true → Op.bytesLess y z = true → Op.bytesLess x z = true := by
  induction x generalizing y z with
  | nil =>
    cases y with
    | nil => intro h; simp [Op.bytesLess] at h
    | cons b y => cases z with
      | nil => intro _ h; simp [Op.bytesLess] at h
      | cons c z => intros; rfl
  | cons a x ih =>
    cases y with
    | nil => intro h; simp [Op.bytesLess] at h
    | cons b y => cases z with
      | nil => intro _ h; simp [Op.bytesLess] at h
      | cons c z =>
        simp only [Op.bytesLess, Bool.or_eq_true, decide_eq_true_eq, Bool.and_eq_true, beq_iff_eq]
        rintro (h1 | ⟨rfl, h1⟩) (h2 | ⟨rfl, h2⟩)
        · exact .inl (UInt8.lt_trans h1 h2)
        · exact .inl h1
        · exact .inl h2
        · exact .inr ⟨rfl, ih h1 h2⟩
theorem less_total {x y : List UInt8} : Op.bytesLess x y = false → Op.bytesLess y x = false → x = y := by
  induction x generalizing y with
  | nil =>
    cases y with
    | nil => intros; rfl
    | cons b y => intro h; simp [Op.bytesLess] at h
  | cons a x ih =>
    cases y with
    | nil => intro _ h; simp [Op.bytesLess] at h
    | cons b y =>
      simp only [Op.bytesLess, Bool.or_eq_false_iff, decide_eq_false_iff_not, Bool.and_eq_false_iff, beq_eq_false_iff_ne]
      rintro ⟨h1, h2⟩ ⟨h3, h4⟩
      have hab : a = b := UInt8.le_antisymm (UInt8.not_lt.1 h3) (UInt8.not_lt.1 h1)
      subst hab
      rw [ih (h2.resolve_left (fun h => h rfl)) (h4.resolve_left (fun h => h rfl))]
theorem less_asymm {x y : List UInt8} (h : Op.bytesLess x y = true) : Op.bytesLess y x = false := by
  cases h' : Op.bytesLess y x with
  | false => rfl
  | true => have := less_trans h h'; rw [less_irrefl] at this; cases this
theorem le_eq (x y : List UInt8) : (Op.bytesLess x y || x == y) = !Op.bytesLess y x := by
  cases h : Op.bytesLess x y with
  | true => rw [less_asymm h]; rfl
  | false =>
    cases h' : Op.bytesLess y x with
    | true =>
      have : (x == y) = false := beq_eq_false_iff_ne.2 (fun e => by subst e; rw [less_irrefl] at h'; cases h')
      rw [this]; rfl
    | false => rw [less_total h h']; simp
theorem leq_str (t : TypeId) (a b : ByteArray) : binOp .leq t (.string a) (.string b) = pure (.bool (!Op.bytesLess b.toList a.toList)) := by
  rw [← le_eq]; simp [binOp, Op.stringOp]
theorem gtr_str (t : TypeId) (a b : ByteArray) : binOp .gtr t (.string a) (.string b) = pure (.bool (Op.bytesLess b.toList a.toList)) := by
  rw [← Bool.not_not (Op.bytesLess b.toList a.toList), ← le_eq]; simp [binOp, Op.stringOp]
theorem geq_str (t : TypeId) (a b : ByteArray) : binOp .geq t (.string a) (.string b) = pure (.bool (!Op.bytesLess a.toList b.toList)) := by simp [binOp, Op.stringOp]
end Go.Proofs.YtdgemabmmomebaaDoor.Ord

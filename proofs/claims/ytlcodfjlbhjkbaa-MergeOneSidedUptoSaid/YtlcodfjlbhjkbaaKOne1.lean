/- Parts of the proof of One: nothing is claimed here by itself. -/
import Derived.Test.YtlcodfjlbhjkbaaKOne0
import Derived.Laws.Strings
import Derived.Test.YtlcodfjlbhjkbaaProg
import Derived.Below
import Derived.Deep.Draws
import Derived.Deep.AppendLies
import Derived.Maps.AppendAt
import Derived.OwnWalk
import Derived.Laws.BytesArg
import Derived.Laws.MakeOwn
import Derived.Laws.OwnMore
import Derived.Deep.OwnRows
import Derived.Tactics
import Derived.Lib.ConvBytes
import Derived.Laws.Slices
import Derived.WalkKit
import Derived.KernelRfl
import Derived.RowKit3
import Derived.Deep.LoopGhost
import Derived.Deep.QuietTactic
import Derived.BigQuiet
import Derived.WideLaws
import Derived.Deep.DeepCutAuto
import Derived.Deep.CutBlock
import Derived.Deep.RegionHeld3
import Derived.Laws.Rows
import Derived.Lib.AppendStr
import Derived.ArgAppend
import Derived.Laws.IdiomCopy
import Derived.OrdersHeld
import Derived.Laws.BitsLemmas
import Derived.RowKit
set_option linter.unusedVariables false
set_option linter.unusedSimpArgs false
section
namespace Go.Proofs.Ytlcodfjlbhjkbaa.Ord
theorem less_irrefl (x:List UInt8):Op.bytesLess x x = false:=by
 induction x with
 | nil=>rfl
 | cons a x ih=>simp [Op.bytesLess,ih,UInt8.lt_irrefl]
theorem less_trans {x y z:List UInt8}:Op.bytesLess x y = true → Op.bytesLess y z = true → Op.bytesLess x z = true:=by
 induction x generalizing y z with
 | nil =>
  cases y with
  | nil=>intro h;simp [Op.bytesLess] at h
  | cons b y=>cases z with
   | nil=>intro _ h;simp [Op.bytesLess] at h
   | cons c z=>intros;rfl
 | cons a x ih =>
  cases y with
  | nil=>intro h;simp [Op.bytesLess] at h
  | cons b y=>cases z with
   | nil=>intro _ h;simp [Op.bytesLess] at h
   | cons c z =>
    simp only [Op.bytesLess,Bool.or_eq_true,decide_eq_true_eq,Bool.and_eq_true,beq_iff_eq]
    rintro (h1 | ⟨rfl,h1⟩) (h2 | ⟨rfl,h2⟩)
    ·exact .inl (UInt8.lt_trans h1 h2)
    ·exact .inl h1
    ·exact .inl h2
    ·exact .inr ⟨rfl,ih h1 h2⟩
theorem less_total {x y:List UInt8}:Op.bytesLess x y = false → Op.bytesLess y x = false → x = y:=by
 induction x generalizing y with
 | nil =>
  cases y with
  | nil=>intros;rfl
  | cons b y=>intro h;simp [Op.bytesLess] at h
 | cons a x ih =>
  cases y with
  | nil=>intro _ h;simp [Op.bytesLess] at h
  | cons b y =>
   simp only [Op.bytesLess,Bool.or_eq_false_iff,decide_eq_false_iff_not,Bool.and_eq_false_iff,beq_eq_false_iff_ne]
   rintro ⟨h1,h2⟩ ⟨h3,h4⟩
   have hab:a = b:=UInt8.le_antisymm (UInt8.not_lt.1 h3) (UInt8.not_lt.1 h1)
   subst hab
   rw [ih (h2.resolve_left (fun h=>h rfl)) (h4.resolve_left (fun h=>h rfl))]
theorem less_asymm {x y:List UInt8} (h:Op.bytesLess x y = true):Op.bytesLess y x = false:=by
 cases h':Op.bytesLess y x with
 | false=>rfl
 | true=>have:=less_trans h h';rw [less_irrefl] at this;cases this
theorem le_eq (x y:List UInt8):(Op.bytesLess x y || x == y) = !Op.bytesLess y x:=by
 cases h:Op.bytesLess x y with
 | true=>rw [less_asymm h];rfl
 | false =>
  cases h':Op.bytesLess y x with
  | true =>
   have:(x == y) = false:=beq_eq_false_iff_ne.2 (fun e=>by subst e;rw [less_irrefl] at h';cases h')
   rw [this];rfl
  | false=>rw [less_total h h'];simp
theorem leq_str (t:TypeId) (a b:ByteArray):binOp .leq t (.string a) (.string b) = pure (.bool (!Op.bytesLess b.toList a.toList)):=by
 rw [← le_eq];simp [binOp,Op.stringOp]
theorem gtr_str (t:TypeId) (a b:ByteArray):binOp .gtr t (.string a) (.string b) = pure (.bool (Op.bytesLess b.toList a.toList)):=by
 rw [← Bool.not_not (Op.bytesLess b.toList a.toList),← le_eq];simp [binOp,Op.stringOp]
theorem geq_str (t:TypeId) (a b:ByteArray):binOp .geq t (.string a) (.string b) = pure (.bool (!Op.bytesLess a.toList b.toList)):=by simp [binOp,Op.stringOp]
end Go.Proofs.Ytlcodfjlbhjkbaa.Ord
end
section
namespace Go.Proofs.Ytlcodfjlbhjkbaa.PDelta
open Go.RowKit Go.Proofs.YtlcodfjlbhjkbaaW.PrintWords Go.Proofs.YtlcodfjlbhjkbaaW.PrintLast Go.Proofs.YtlcodfjlbhjkbaaW.PrintMore
attribute [local go_sem] max2_int min2_int max_two min_two max_three min_three max_four min_four
attribute [local go_sem high] Go.Proofs.Ytlcodfjlbhjkbaa.Ord.leq_str Go.Proofs.Ytlcodfjlbhjkbaa.Ord.gtr_str Go.Proofs.Ytlcodfjlbhjkbaa.Ord.geq_str
def errW:Option Int → Value
 | none=>.nilIface
 | some c=>.iface 0 (.int .i64 c)
theorem errW_none:errW none = .nilIface:=rfl
theorem errW_some (c:Int):errW (some c) = .iface 0 (.int .i64 c):=rfl
theorem info3:(Try.prog.info? 3).map (fun i=>(i.zero,i.size,i.bytes)) = some (some (.int .i64 0),1,8):=by kernel_rfl
theorem info26:(Try.prog.info? 26).map (fun i=>(i.zero,i.size,i.bytes)) = some (some (.agg #[(.int .i64 0),(.int .i64 0),(.slice none 0 0)]),3,40):=by kernel_rfl
theorem info35:(Try.prog.info? 35).map (fun i=>(i.zero,i.size,i.bytes)) = some (some (.slice none 0 0),1,24):=by kernel_rfl
theorem info91:(Try.prog.info? 91).map (fun i=>(i.zero,i.size,i.bytes)) = some (some (.agg #[(.string ⟨#[]⟩),(.string ⟨#[]⟩)]),2,32):=by kernel_rfl
theorem info95:(Try.prog.info? 95).map (fun i=>(i.zero,i.size,i.bytes)) = some (some (.agg #[(.int .i64 0),(.int .i64 0),(.slice none 0 0),(.slice none 0 0)]),4,64):=by kernel_rfl
structure S91 where
 f0:ByteArray
 f1:ByteArray
def z91:S91:=⟨(⟨#[]⟩:ByteArray),(⟨#[]⟩:ByteArray)⟩
def k91:Kd S91:=Kd.iso (Kd.pair Kd.string Kd.string) (fun x:S91=>(x.f0,x.f1))
theorem k91_heap:Kd.Heap k91:=Kd.heap_iso _ (Kd.heap_pair Kd.heap_string Kd.heap_string)
theorem k91_open {w:World} {x:S91} {cs:List Value} (h:k91.K w x cs):cs = [.string x.f0,.string x.f1]:=by
 obtain ⟨_,_,rfl,rfl,rfl⟩:=h
 exact rfl
theorem k91_mk (w:World) (x:S91) :k91.K w x [.string x.f0,.string x.f1]:=⟨[.string x.f0],[.string x.f1],rfl,rfl,rfl⟩
theorem k91_mkM (w:World) (base:Nat) (ok:Nat → Prop) (x:S91) :k91.M w base ok x [.string x.f0,.string x.f1]:=⟨[.string x.f0],[.string x.f1],rfl,rfl,rfl⟩
theorem k91_mkF (W:World) (ok:Nat → Prop) (x:S91):Kd.FK k91 W ok x [.string x.f0,.string x.f1]:=fun W2 _=>k91_mk W2 x
def rd_T91 (xs:List S91) (i:Int):S91:=xs.getD i.toNat z91
theorem at_T91 {w:World} {A:Option Addr} {n:Nat} {xs:List S91} (h:Kd.C k91 w A n xs) (i:Int) (h0:0 ≤ i) (h1:i < n):∃ ad ,A = some ad ∧ w.cell? (ad.add (i.toNat * 2)) = some (.string (rd_T91 xs i).f0) ∧ w.cell? ⟨(ad.add (i.toNat * 2)).block,(ad.add (i.toNat * 2)).off + 1,none⟩ = some (.string (rd_T91 xs i).f1):=by
 obtain ⟨ad,c,e,_,hK,hc0⟩:=Kd.C_get h z91 i h0 h1
 have hc:∀ j u,c[j]? = some u → w.cell? (ad.add (i.toNat * 2 + j)) = some u:=hc0
 obtain rfl:=k91_open hK
 exact ⟨ad,e,hc 0 _ rfl,by rw [← add_field _ _ 1 (by omega)];exact hc 1 _ rfl⟩
def rd_L3 (xs:List (List S91)) (i:Int):(List S91):=xs.getD i.toNat ([]:List S91)
theorem at_L3 {w:World} {A:Option Addr} {n:Nat} {xs:List (List S91)} (h:Kd.C (Kd.slice 91 k91) w A n xs) (i:Int) (h0:0 ≤ i) (h1:i < n):∃ ad A0 c0,A = some ad ∧ w.cell? (ad.add i.toNat) = some (.slice A0 (rd_L3 xs i).length c0) ∧ (rd_L3 xs i).length ≤ c0 ∧ k91.C w A0 (rd_L3 xs i).length (rd_L3 xs i):=by
 obtain ⟨ad,c,e,_,hK,hc0⟩:=Kd.C_get h ([]:List S91) i h0 h1
 have hc:∀ j u,c[j]? = some u → w.cell? (ad.add (i.toNat * 1 + j)) = some u:=hc0
 obtain ⟨A0,c0,rfl,l0,g0⟩:=hK
 exact ⟨ad,A0,c0,e,by have hq:=hc 0 _ rfl;rwa [Nat.mul_one,Nat.add_zero] at hq,l0,g0⟩
structure S26 where
 f0:Int
 f1:Int
 f2:(List S91)
def z26:S26:=⟨(0:Int),(0:Int),([]:List S91)⟩
def k26:Kd S26:=Kd.iso (Kd.pair (Kd.int .i64) (Kd.pair (Kd.int .i64) (Kd.slice 91 k91))) (fun x:S26=>(x.f0,x.f1,x.f2))
theorem k26_heap:Kd.Heap k26:=Kd.heap_iso _ (Kd.heap_pair (Kd.heap_int .i64) (Kd.heap_pair (Kd.heap_int .i64) (Kd.heap_slice 91 k91_heap)))
theorem k26_open {w:World} {x:S26} {cs:List Value} (h:k26.K w x cs):∃ A2 c2,cs = [.int .i64 x.f0,.int .i64 x.f1,.slice A2 x.f2.length c2] ∧ x.f2.length ≤ c2 ∧ k91.C w A2 x.f2.length x.f2:=by
 obtain ⟨_,_,rfl,rfl,⟨_,_,rfl,rfl,⟨A2,c2,rfl,l2,g2⟩⟩⟩:=h
 exact ⟨A2,c2,rfl,l2,g2⟩
theorem k26_mk (w:World) (x:S26) {A2:Option Addr} {c2:Nat} (l2:x.f2.length ≤ c2) (g2:k91.C w A2 x.f2.length x.f2):k26.K w x [.int .i64 x.f0,.int .i64 x.f1,.slice A2 x.f2.length c2]:=⟨[.int .i64 x.f0],[.int .i64 x.f1,.slice A2 x.f2.length c2],rfl,rfl,⟨[.int .i64 x.f1],[.slice A2 x.f2.length c2],rfl,rfl,⟨A2,c2,rfl,l2,g2⟩⟩⟩
theorem k26_mkM (w:World) (base:Nat) (ok:Nat → Prop) (x:S26) {v2:Value} (g2:k91.R 91 w base ok v2 x.f2):k26.M w base ok x [.int .i64 x.f0,.int .i64 x.f1,v2]:=⟨[.int .i64 x.f0],[.int .i64 x.f1,v2],rfl,rfl,⟨[.int .i64 x.f1],[v2],rfl,rfl,⟨v2,rfl,g2⟩⟩⟩
theorem k26_openF {W:World} {ok:Nat → Prop} {x:S26} {cs:List Value} (h:Kd.FK k26 W ok x cs):∃ A2 c2,cs = [.int .i64 x.f0,.int .i64 x.f1,.slice A2 x.f2.length c2] ∧ x.f2.length ≤ c2 ∧ Kd.F k91 W ok A2 x.f2.length x.f2:=by
 obtain ⟨A2,c2,rfl,l2,_⟩:=k26_open (Kd.FK_now h)
 exact ⟨A2,c2,rfl,l2,(fun W' hW=>by obtain ⟨A2_,c2_,he,l2_,g2_⟩:=k26_open (h W' hW);injection (Option.some.inj (show some (Value.slice A2 x.f2.length c2) = some (Value.slice A2_ x.f2.length c2_) from congrArg (fun l=>l[2]?) he)) with ha_ _ _;rw [ha_];exact g2_)⟩
theorem k26_mkF (W:World) (ok:Nat → Prop) (x:S26) {A2:Option Addr} {c2:Nat} (l2:x.f2.length ≤ c2) (g2:Kd.F k91 W ok A2 x.f2.length x.f2):Kd.FK k26 W ok x [.int .i64 x.f0,.int .i64 x.f1,.slice A2 x.f2.length c2]:=fun W2 hW=>k26_mk W2 x l2 (g2 W2 hW)
def rd_T26 (xs:List S26) (i:Int):S26:=xs.getD i.toNat z26
theorem at_T26 {w:World} {A:Option Addr} {n:Nat} {xs:List S26} (h:Kd.C k26 w A n xs) (i:Int) (h0:0 ≤ i) (h1:i < n):∃ ad A2 c2,A = some ad ∧ w.cell? (ad.add (i.toNat * 3)) = some (.int .i64 (rd_T26 xs i).f0) ∧ w.cell? ⟨(ad.add (i.toNat * 3)).block,(ad.add (i.toNat * 3)).off + 1,none⟩ = some (.int .i64 (rd_T26 xs i).f1) ∧ w.cell? ⟨(ad.add (i.toNat * 3)).block,(ad.add (i.toNat * 3)).off + 2,none⟩ = some (.slice A2 (rd_T26 xs i).f2.length c2) ∧ (rd_T26 xs i).f2.length ≤ c2 ∧ k91.C w A2 (rd_T26 xs i).f2.length (rd_T26 xs i).f2:=by
 obtain ⟨ad,c,e,_,hK,hc0⟩:=Kd.C_get h z26 i h0 h1
 have hc:∀ j u,c[j]? = some u → w.cell? (ad.add (i.toNat * 3 + j)) = some u:=hc0
 obtain ⟨A2,c2,rfl,l2,g2⟩:=k26_open hK
 exact ⟨ad,A2,c2,e,hc 0 _ rfl,by rw [← add_field _ _ 1 (by omega)];exact hc 1 _ rfl,by rw [← add_field _ _ 2 (by omega)];exact hc 2 _ rfl,l2,g2⟩
def rd_L5 (xs:List (List S26)) (i:Int):(List S26):=xs.getD i.toNat ([]:List S26)
theorem at_L5 {w:World} {A:Option Addr} {n:Nat} {xs:List (List S26)} (h:Kd.C (Kd.slice 26 k26) w A n xs) (i:Int) (h0:0 ≤ i) (h1:i < n):∃ ad A0 c0,A = some ad ∧ w.cell? (ad.add i.toNat) = some (.slice A0 (rd_L5 xs i).length c0) ∧ (rd_L5 xs i).length ≤ c0 ∧ k26.C w A0 (rd_L5 xs i).length (rd_L5 xs i):=by
 obtain ⟨ad,c,e,_,hK,hc0⟩:=Kd.C_get h ([]:List S26) i h0 h1
 have hc:∀ j u,c[j]? = some u → w.cell? (ad.add (i.toNat * 1 + j)) = some u:=hc0
 obtain ⟨A0,c0,rfl,l0,g0⟩:=hK
 exact ⟨ad,A0,c0,e,by have hq:=hc 0 _ rfl;rwa [Nat.mul_one,Nat.add_zero] at hq,l0,g0⟩
structure S95 where
 f0:Int
 f1:Int
 f2:(List S91)
 f3:(List S26)
def z95:S95:=⟨(0:Int),(0:Int),([]:List S91),([]:List S26)⟩
def k95:Kd S95:=Kd.iso (Kd.pair (Kd.int .i64) (Kd.pair (Kd.int .i64) (Kd.pair (Kd.slice 91 k91) (Kd.slice 26 k26)))) (fun x:S95=>(x.f0,x.f1,x.f2,x.f3))
theorem k95_heap:Kd.Heap k95:=Kd.heap_iso _ (Kd.heap_pair (Kd.heap_int .i64) (Kd.heap_pair (Kd.heap_int .i64) (Kd.heap_pair (Kd.heap_slice 91 k91_heap) (Kd.heap_slice 26 k26_heap))))
theorem k95_open {w:World} {x:S95} {cs:List Value} (h:k95.K w x cs):∃ A2 c2 A3 c3,cs = [.int .i64 x.f0,.int .i64 x.f1,.slice A2 x.f2.length c2,.slice A3 x.f3.length c3] ∧ x.f2.length ≤ c2 ∧ k91.C w A2 x.f2.length x.f2 ∧ x.f3.length ≤ c3 ∧ k26.C w A3 x.f3.length x.f3:=by
 obtain ⟨_,_,rfl,rfl,⟨_,_,rfl,rfl,⟨_,_,rfl,⟨A2,c2,rfl,l2,g2⟩,⟨A3,c3,rfl,l3,g3⟩⟩⟩⟩:=h
 exact ⟨A2,c2,A3,c3,rfl,l2,g2,l3,g3⟩
theorem k95_mk (w:World) (x:S95) {A2:Option Addr} {c2:Nat} (l2:x.f2.length ≤ c2) (g2:k91.C w A2 x.f2.length x.f2) {A3:Option Addr} {c3:Nat} (l3:x.f3.length ≤ c3) (g3:k26.C w A3 x.f3.length x.f3):k95.K w x [.int .i64 x.f0,.int .i64 x.f1,.slice A2 x.f2.length c2,.slice A3 x.f3.length c3]:=⟨[.int .i64 x.f0],[.int .i64 x.f1,.slice A2 x.f2.length c2,.slice A3 x.f3.length c3],rfl,rfl,⟨[.int .i64 x.f1],[.slice A2 x.f2.length c2,.slice A3 x.f3.length c3],rfl,rfl,⟨[.slice A2 x.f2.length c2],[.slice A3 x.f3.length c3],rfl,⟨A2,c2,rfl,l2,g2⟩,⟨A3,c3,rfl,l3,g3⟩⟩⟩⟩
theorem k95_openF {W:World} {ok:Nat → Prop} {x:S95} {cs:List Value} (h:Kd.FK k95 W ok x cs):∃ A2 c2 A3 c3,cs = [.int .i64 x.f0,.int .i64 x.f1,.slice A2 x.f2.length c2,.slice A3 x.f3.length c3] ∧ x.f2.length ≤ c2 ∧ Kd.F k91 W ok A2 x.f2.length x.f2 ∧ x.f3.length ≤ c3 ∧ Kd.F k26 W ok A3 x.f3.length x.f3:=by
 obtain ⟨A2,c2,A3,c3,rfl,l2,_,l3,_⟩:=k95_open (Kd.FK_now h)
 exact ⟨A2,c2,A3,c3,rfl,l2,(fun W' hW=>by obtain ⟨A2_,c2_,A3_,c3_,he,l2_,g2_,l3_,g3_⟩:=k95_open (h W' hW);injection (Option.some.inj (show some (Value.slice A2 x.f2.length c2) = some (Value.slice A2_ x.f2.length c2_) from congrArg (fun l=>l[2]?) he)) with ha_ _ _;rw [ha_];exact g2_),l3,(fun W' hW=>by obtain ⟨A2_,c2_,A3_,c3_,he,l2_,g2_,l3_,g3_⟩:=k95_open (h W' hW);injection (Option.some.inj (show some (Value.slice A3 x.f3.length c3) = some (Value.slice A3_ x.f3.length c3_) from congrArg (fun l=>l[3]?) he)) with ha_ _ _;rw [ha_];exact g3_)⟩
theorem k95_mkF (W:World) (ok:Nat → Prop) (x:S95) {A2:Option Addr} {c2:Nat} (l2:x.f2.length ≤ c2) (g2:Kd.F k91 W ok A2 x.f2.length x.f2) {A3:Option Addr} {c3:Nat} (l3:x.f3.length ≤ c3) (g3:Kd.F k26 W ok A3 x.f3.length x.f3):Kd.FK k95 W ok x [.int .i64 x.f0,.int .i64 x.f1,.slice A2 x.f2.length c2,.slice A3 x.f3.length c3]:=fun W2 hW=>k95_mk W2 x l2 (g2 W2 hW) l3 (g3 W2 hW)
def rd_T95 (xs:List S95) (i:Int):S95:=xs.getD i.toNat z95
theorem at_T95 {w:World} {A:Option Addr} {n:Nat} {xs:List S95} (h:Kd.C k95 w A n xs) (i:Int) (h0:0 ≤ i) (h1:i < n):∃ ad A2 c2 A3 c3,A = some ad ∧ w.cell? (ad.add (i.toNat * 4)) = some (.int .i64 (rd_T95 xs i).f0) ∧ w.cell? ⟨(ad.add (i.toNat * 4)).block,(ad.add (i.toNat * 4)).off + 1,none⟩ = some (.int .i64 (rd_T95 xs i).f1) ∧ w.cell? ⟨(ad.add (i.toNat * 4)).block,(ad.add (i.toNat * 4)).off + 2,none⟩ = some (.slice A2 (rd_T95 xs i).f2.length c2) ∧ w.cell? ⟨(ad.add (i.toNat * 4)).block,(ad.add (i.toNat * 4)).off + 3,none⟩ = some (.slice A3 (rd_T95 xs i).f3.length c3) ∧ (rd_T95 xs i).f2.length ≤ c2 ∧ k91.C w A2 (rd_T95 xs i).f2.length (rd_T95 xs i).f2 ∧ (rd_T95 xs i).f3.length ≤ c3 ∧ k26.C w A3 (rd_T95 xs i).f3.length (rd_T95 xs i).f3:=by
 obtain ⟨ad,c,e,_,hK,hc0⟩:=Kd.C_get h z95 i h0 h1
 have hc:∀ j u,c[j]? = some u → w.cell? (ad.add (i.toNat * 4 + j)) = some u:=hc0
 obtain ⟨A2,c2,A3,c3,rfl,l2,g2,l3,g3⟩:=k95_open hK
 exact ⟨ad,A2,c2,A3,c3,e,hc 0 _ rfl,by rw [← add_field _ _ 1 (by omega)];exact hc 1 _ rfl,by rw [← add_field _ _ 2 (by omega)];exact hc 2 _ rfl,by rw [← add_field _ _ 3 (by omega)];exact hc 3 _ rfl,l2,g2,l3,g3⟩
def rd_L10 (xs:List (List Int)) (i:Int):(List Int):=xs.getD i.toNat ([]:List Int)
theorem at_L10 {w:World} {A:Option Addr} {n:Nat} {xs:List (List Int)} (h:Kd.C (Kd.slice 3 (Kd.int .i64)) w A n xs) (i:Int) (h0:0 ≤ i) (h1:i < n):∃ ad A0 c0,A = some ad ∧ w.cell? (ad.add i.toNat) = some (.slice A0 (rd_L10 xs i).length c0) ∧ (rd_L10 xs i).length ≤ c0 ∧ (Kd.int .i64).C w A0 (rd_L10 xs i).length (rd_L10 xs i):=by
 obtain ⟨ad,c,e,_,hK,hc0⟩:=Kd.C_get h ([]:List Int) i h0 h1
 have hc:∀ j u,c[j]? = some u → w.cell? (ad.add (i.toNat * 1 + j)) = some u:=hc0
 obtain ⟨A0,c0,rfl,l0,g0⟩:=hK
 exact ⟨ad,A0,c0,e,by have hq:=hc 0 _ rfl;rwa [Nat.mul_one,Nat.add_zero] at hq,l0,g0⟩
theorem eqA91 (d:Nat) (w:World) (x0 y0:ByteArray) (x1 y1:ByteArray) :
 (Op.equalIn (d + 2) 91 (.agg #[.string x0,.string x1]) (.agg #[.string y0,.string y1])).run Try.prog w = .ok (x0.toList == y0.toList && (x1.toList == y1.toList)) w:=by
 refine eqA_of Try.underlying91 (by kernel_rfl) ?_
 refine eqf_cons (by rfl) (by go_simp;rfl) (by go_simp;rfl) (by go_simp) ?_
 exact eqf_last (by rfl) (by go_simp;rfl) (by go_simp;rfl) (by go_simp)
def flow_Char.f (a0:Int):Option (Bool):=if a0 = 9 then (some true) else (if a0 = 10 then (some true) else (if a0 ≥ 32 then (if a0 < 127 then (some true) else (if a0 ≥ 160 then (if a0 < 55296 then (some true) else (if a0 > 57343 then (some (decide (a0 ≤ 1114111))) else (some false))) else (if a0 > 57343 then (some (decide (a0 ≤ 1114111))) else (some false)))) else (if a0 ≥ 160 then (if a0 < 55296 then (some true) else (if a0 > 57343 then (some (decide (a0 ≤ 1114111))) else (some false))) else (if a0 > 57343 then (some (decide (a0 ≤ 1114111))) else (some false)))))
set_option maxHeartbeats 8000000 in
set_option maxRecDepth 100000 in
theorem flow_Char.calls (a0:Int) (r:Bool) (w:World) (h:flow_Char.f a0 = some r) :
 Calls Try.prog 130 #[.int .i64 a0] w fun e w'=>e = .returned (.bool r) ∧ Drawn0 w w':=by
 have H:(if a0 = 9 then (some true) else (if a0 = 10 then (some true) else (if a0 ≥ 32 then (if a0 < 127 then (some true) else (if a0 ≥ 160 then (if a0 < 55296 then (some true) else (if a0 > 57343 then (some (decide (a0 ≤ 1114111))) else (some false))) else (if a0 > 57343 then (some (decide (a0 ≤ 1114111))) else (some false)))) else (if a0 ≥ 160 then (if a0 < 55296 then (some true) else (if a0 > 57343 then (some (decide (a0 ≤ 1114111))) else (some false))) else (if a0 > 57343 then (some (decide (a0 ≤ 1114111))) else (some false)))))) = some r:=h
 clear h
 by_cases c2:a0 = 9
 ·rw [if_pos c2] at H
  have c2b0:(a0 == 9) = true:=beq_iff_eq.mpr c2
  have c2b1:(a0 != 9) = false:=bne_eq_false_iff_eq.mpr c2
  clear c2
  obtain rfl:=Option.some.inj H
  go_enter Try.func130,Try.ntmps130
  go_wp2
  go_ret
  exact ⟨by rfl,by repeat (exact Drawn0.refl _)⟩
 ·rw [if_neg c2] at H
  have c2b0:(a0 == 9) = false:=beq_eq_false_iff_ne.mpr c2
  have c2b1:(a0 != 9) = true:=bne_iff_ne.mpr c2
  by_cases c3:a0 = 10
  ·rw [if_pos c3] at H
   have c3b0:(a0 == 10) = true:=beq_iff_eq.mpr c3
   have c3b1:(a0 != 10) = false:=bne_eq_false_iff_eq.mpr c3
   clear c3
   obtain rfl:=Option.some.inj H
   go_enter Try.func130,Try.ntmps130
   go_wp2
   go_ret
   exact ⟨by rfl,by repeat (exact Drawn0.refl _)⟩
  ·rw [if_neg c3] at H
   have c3b0:(a0 == 10) = false:=beq_eq_false_iff_ne.mpr c3
   have c3b1:(a0 != 10) = true:=bne_iff_ne.mpr c3
   by_cases c4:a0 ≥ 32
   ·rw [if_pos c4] at H
    have c4b0:decide (32 ≤ a0) = true:=decide_eq_true c4
    clear c4
    by_cases c5:a0 < 127
    ·rw [if_pos c5] at H
     have c5b0:decide (a0 < 127) = true:=decide_eq_true c5
     clear c5
     obtain rfl:=Option.some.inj H
     go_enter Try.func130,Try.ntmps130
     go_wp2
     go_ret
     exact ⟨by rfl,by repeat (exact Drawn0.refl _)⟩
    ·rw [if_neg c5] at H
     have c5b0:decide (a0 < 127) = false:=decide_eq_false c5
     clear c5
     by_cases c6:a0 ≥ 160
     ·rw [if_pos c6] at H
      have c6b0:decide (160 ≤ a0) = true:=decide_eq_true c6
      clear c6
      by_cases c7:a0 < 55296
      ·rw [if_pos c7] at H
       have c7b0:decide (a0 < 55296) = true:=decide_eq_true c7
       clear c7
       obtain rfl:=Option.some.inj H
       go_enter Try.func130,Try.ntmps130
       go_wp2
       go_ret
       exact ⟨by rfl,by repeat (exact Drawn0.refl _)⟩
      ·rw [if_neg c7] at H
       have c7b0:decide (a0 < 55296) = false:=decide_eq_false c7
       clear c7
       by_cases c8:a0 > 57343
       ·rw [if_pos c8] at H
        have c8b0:decide (57343 < a0) = true:=decide_eq_true c8
        clear c8
        obtain rfl:=Option.some.inj H
        go_enter Try.func130,Try.ntmps130
        go_wp2
        go_ret
        exact ⟨by rfl,by repeat (exact Drawn0.refl _)⟩
       ·rw [if_neg c8] at H
        have c8b0:decide (57343 < a0) = false:=decide_eq_false c8
        clear c8
        obtain rfl:=Option.some.inj H
        go_enter Try.func130,Try.ntmps130
        go_wp2
        go_ret
        exact ⟨by rfl,by repeat (exact Drawn0.refl _)⟩
     ·rw [if_neg c6] at H
      have c6b0:decide (160 ≤ a0) = false:=decide_eq_false c6
      clear c6
      by_cases c9:a0 > 57343
      ·rw [if_pos c9] at H
       have c9b0:decide (57343 < a0) = true:=decide_eq_true c9
       clear c9
       obtain rfl:=Option.some.inj H
       go_enter Try.func130,Try.ntmps130
       go_wp2
       go_ret
       exact ⟨by rfl,by repeat (exact Drawn0.refl _)⟩
      ·rw [if_neg c9] at H
       have c9b0:decide (57343 < a0) = false:=decide_eq_false c9
       clear c9
       obtain rfl:=Option.some.inj H
       go_enter Try.func130,Try.ntmps130
       go_wp2
       go_ret
       exact ⟨by rfl,by repeat (exact Drawn0.refl _)⟩
   ·rw [if_neg c4] at H
    have c4b0:decide (32 ≤ a0) = false:=decide_eq_false c4
    clear c4
    by_cases c10:a0 ≥ 160
    ·rw [if_pos c10] at H
     have c10b0:decide (160 ≤ a0) = true:=decide_eq_true c10
     clear c10
     by_cases c11:a0 < 55296
     ·rw [if_pos c11] at H
      have c11b0:decide (a0 < 55296) = true:=decide_eq_true c11
      clear c11
      obtain rfl:=Option.some.inj H
      go_enter Try.func130,Try.ntmps130
      go_wp2
      go_ret
      exact ⟨by rfl,by repeat (exact Drawn0.refl _)⟩
     ·rw [if_neg c11] at H
      have c11b0:decide (a0 < 55296) = false:=decide_eq_false c11
      clear c11
      by_cases c12:a0 > 57343
      ·rw [if_pos c12] at H
       have c12b0:decide (57343 < a0) = true:=decide_eq_true c12
       clear c12
       obtain rfl:=Option.some.inj H
       go_enter Try.func130,Try.ntmps130
       go_wp2
       go_ret
       exact ⟨by rfl,by repeat (exact Drawn0.refl _)⟩
      ·rw [if_neg c12] at H
       have c12b0:decide (57343 < a0) = false:=decide_eq_false c12
       clear c12
       obtain rfl:=Option.some.inj H
       go_enter Try.func130,Try.ntmps130
       go_wp2
       go_ret
       exact ⟨by rfl,by repeat (exact Drawn0.refl _)⟩
    ·rw [if_neg c10] at H
     have c10b0:decide (160 ≤ a0) = false:=decide_eq_false c10
     clear c10
     by_cases c13:a0 > 57343
     ·rw [if_pos c13] at H
      have c13b0:decide (57343 < a0) = true:=decide_eq_true c13
      clear c13
      obtain rfl:=Option.some.inj H
      go_enter Try.func130,Try.ntmps130
      go_wp2
      go_ret
      exact ⟨by rfl,by repeat (exact Drawn0.refl _)⟩
     ·rw [if_neg c13] at H
      have c13b0:decide (57343 < a0) = false:=decide_eq_false c13
      clear c13
      obtain rfl:=Option.some.inj H
      go_enter Try.func130,Try.ntmps130
      go_wp2
      go_ret
      exact ⟨by rfl,by repeat (exact Drawn0.refl _)⟩
mutual
def attr_Name.j0:Nat → ByteArray → Bool → Option (Bool)
 | 0,_,_=>none
 | k + 1,x0,x21=>if x21 = true then (some false) else (attr_Name.l0 k x0 (x0.size:Int) 0)
def attr_Name.l0:Nat → ByteArray → Int → Int → Option (Bool)
 | 0,_,_,_=>none
 | k + 1,x0,x23,x24=>if x24 < x23 then (if 0 ≤ x24 then (if x24 < (x0.size:Int) then (if (bt x0 x24) < 97 then (if (bt x0 x24) < 48 then (if (bt x0 x24) = 46 then (attr_Name.l0 k x0 x23 (wrap64 (x24 + 1))) else (if (bt x0 x24) = 45 then (attr_Name.l0 k x0 x23 (wrap64 (x24 + 1))) else (some false))) else (if (bt x0 x24) > 57 then (if (bt x0 x24) = 46 then (attr_Name.l0 k x0 x23 (wrap64 (x24 + 1))) else (if (bt x0 x24) = 45 then (attr_Name.l0 k x0 x23 (wrap64 (x24 + 1))) else (some false))) else (attr_Name.l0 k x0 x23 (wrap64 (x24 + 1))))) else (if (bt x0 x24) > 122 then (if (bt x0 x24) < 48 then (if (bt x0 x24) = 46 then (attr_Name.l0 k x0 x23 (wrap64 (x24 + 1))) else (if (bt x0 x24) = 45 then (attr_Name.l0 k x0 x23 (wrap64 (x24 + 1))) else (some false))) else (if (bt x0 x24) > 57 then (if (bt x0 x24) = 46 then (attr_Name.l0 k x0 x23 (wrap64 (x24 + 1))) else (if (bt x0 x24) = 45 then (attr_Name.l0 k x0 x23 (wrap64 (x24 + 1))) else (some false))) else (attr_Name.l0 k x0 x23 (wrap64 (x24 + 1))))) else (attr_Name.l0 k x0 x23 (wrap64 (x24 + 1))))) else (none)) else (none)) else (some true)
end
def attr_Name.f (k:Nat) (a0:ByteArray):Option (Bool):=if a0.toList = ([]:List UInt8) then (attr_Name.j0 k a0 true) else (if (a0.size:Int) > 24 then (attr_Name.j0 k a0 true) else (if 0 < (a0.size:Int) then (if (bt a0 0) < 97 then (attr_Name.j0 k a0 true) else (attr_Name.j0 k a0 (decide ((bt a0 0) > 122)))) else (none)))
theorem attr_Name.mono_l:∀ k,(∀ y0 y1,LeO (attr_Name.j0 k y0 y1) (attr_Name.j0 (k + 1) y0 y1)) ∧ (∀ y0 y1 y2,LeO (attr_Name.l0 k y0 y1 y2) (attr_Name.l0 (k + 1) y0 y1 y2))
 | 0=>⟨fun _ _ r h=>by simp [attr_Name.j0] at h,fun _ _ _ r h=>by simp [attr_Name.l0] at h⟩
 | k + 1=>by
  obtain ⟨ih0,ih1⟩:=attr_Name.mono_l k
  refine ⟨?_,?_⟩
  ·intro y0 y1
   unfold attr_Name.j0
   repeat' first | (with_reducible exact ih1 _ _ _) | (with_reducible exact LeO.refl _) | (with_reducible refine LeO.ite ?_ ?_)
  ·intro y0 y1 y2
   unfold attr_Name.l0
   repeat' first | (with_reducible exact ih1 _ _ _) | (with_reducible exact LeO.refl _) | (with_reducible refine LeO.ite ?_ ?_)
theorem attr_Name.mono:∀ a0 k,LeO (attr_Name.f k a0) (attr_Name.f (k + 1) a0):=by
 intro a0 k
 obtain ⟨ih0,ih1⟩:=attr_Name.mono_l k
 unfold attr_Name.f
 repeat' first | (with_reducible exact ih0 _ _) | (with_reducible exact LeO.refl _) | (with_reducible refine LeO.ite ?_ ?_)
set_option maxHeartbeats 8000000 in
set_option maxRecDepth 100000 in
theorem attr_Name.calls (k:Nat) (a0:ByteArray) (r:Bool) (w:World) (h:attr_Name.f k a0 = some r) :
 Calls Try.prog 140 #[.string a0] w fun e w'=>e = .returned (.bool r) ∧ Drawn0 w w':=by
 have H:(if a0.toList = ([]:List UInt8) then (attr_Name.j0 k a0 true) else (if (a0.size:Int) > 24 then (attr_Name.j0 k a0 true) else (if 0 < (a0.size:Int) then (if (bt a0 0) < 97 then (attr_Name.j0 k a0 true) else (attr_Name.j0 k a0 (decide ((bt a0 0) > 122)))) else (none)))) = some r:=h
 clear h
 have HC2:=Aside0.mk H
 clear H
 go_enter Try.func140,Try.ntmps140
 go_upto_region 1 with (fail)
 go_cut [21] (fun v21 wc=>∃ (kq:Nat) (x21_1:Bool),v21 = .bool x21_1 ∧ Aside0 (attr_Name.j0 kq a0 x21_1 = some r) ∧ Aside0 (kq ≤ k) ∧ Drawn0 w wc)
 case first =>
  have H:=HC2.out
  clear HC2
  by_cases c3:a0.toList = ([]:List UInt8)
  ·rw [if_pos c3] at H
   have c3b0:(a0.toList == ([]:List UInt8)) = true:=beq_iff_eq.mpr c3
   have c3b1:(a0.toList != ([]:List UInt8)) = false:=bne_eq_false_iff_eq.mpr c3
   clear c3
   (skip)
   have H':=Aside0.mk H
   clear H
   go_wp2
   go_meet
   case rel=>exact ⟨_,(true),(by rfl),H',⟨by omega⟩,by repeat (exact Drawn0.refl _)⟩
  ·rw [if_neg c3] at H
   have c3b0:(a0.toList == ([]:List UInt8)) = false:=beq_eq_false_iff_ne.mpr c3
   have c3b1:(a0.toList != ([]:List UInt8)) = true:=bne_iff_ne.mpr c3
   (skip)
   by_cases c4:(a0.size:Int) > 24
   ·rw [if_pos c4] at H
    have c4b0:decide (24 < (a0.size:Int)) = true:=decide_eq_true c4
    have c4b1:decide (24 < a0.size) = true:=decide_eq_true (by omega)
    clear c4
    have H':=Aside0.mk H
    clear H
    go_wp2
    go_meet
    case rel=>exact ⟨_,(true),(by rfl),H',⟨by omega⟩,by repeat (exact Drawn0.refl _)⟩
   ·rw [if_neg c4] at H
    have c4b0:decide (24 < (a0.size:Int)) = false:=decide_eq_false c4
    have c4b1:decide (24 < a0.size) = false:=decide_eq_false (by omega)
    clear c4
    by_cases c5:0 < (a0.size:Int)
    ·rw [if_pos c5] at H
     have c5b0:decide (0 < (a0.size:Int)) = true:=decide_eq_true c5
     have c5b1:decide (0 < a0.size) = true:=decide_eq_true (by omega)
     clear c5
     by_cases c7:(bt a0 0) < 97
     ·rw [if_pos c7] at H
      have c7b0:decide ((bt a0 0) < 97) = true:=decide_eq_true c7
      clear c7
      have H':=Aside0.mk H
      clear H
      have p6:0 ≤ (0:Int):=(by omega)
      have q6:0 < a0.size:=(by have:(0:Int) < (a0.size:Int):=of_decide_eq_true (by assumption);omega)
      have hx6:∀ h:0 < a0.size,((a0[0]'h).toNat:Int) = bt a0 0:=bt_at a0 0
      clear p6
      have qi6:(0 < (a0.size:Int)) = True:=eq_true (of_decide_eq_true (by assumption))
      replace q6:=eq_true q6
      go_wp2
      go_meet
      case rel=>exact ⟨_,(true),(by rfl),H',⟨by omega⟩,by repeat (exact Drawn0.refl _)⟩
     ·rw [if_neg c7] at H
      have c7b0:decide ((bt a0 0) < 97) = false:=decide_eq_false c7
      clear c7
      have H':=Aside0.mk H
      clear H
      have p6:0 ≤ (0:Int):=(by omega)
      have q6:0 < a0.size:=(by have:(0:Int) < (a0.size:Int):=of_decide_eq_true (by assumption);omega)
      have hx6:∀ h:0 < a0.size,((a0[0]'h).toNat:Int) = bt a0 0:=bt_at a0 0
      clear p6
      have qi6:(0 < (a0.size:Int)) = True:=eq_true (of_decide_eq_true (by assumption))
      replace q6:=eq_true q6
      have p8:0 ≤ (0:Int):=(by omega)
      have q8:0 < a0.size:=(by have:(0:Int) < (a0.size:Int):=of_decide_eq_true (by assumption);omega)
      have hx8:∀ h:0 < a0.size,((a0[0]'h).toNat:Int) = bt a0 0:=bt_at a0 0
      clear p8
      have qi8:(0 < (a0.size:Int)) = True:=eq_true (of_decide_eq_true (by assumption))
      replace q8:=eq_true q8
      go_wp2
      go_meet
      case rel=>exact ⟨_,(decide ((bt a0 0) > 122)),(by rfl),H',⟨by omega⟩,by repeat (exact Drawn0.refl _)⟩
    ·rw [if_neg c5] at H
     exact absurd H (by simp)
 case rest =>
  clear HC2
  obtain ⟨kq,x21_1,rfl,HA,HJ1,⟨mc1,rfl⟩⟩:=hcut
  cases kq with
  | zero=>exact absurd HA.out (by simp [attr_Name.j0])
  | succ kj1 =>
   have H:=HA.out
   clear HA
   simp only [attr_Name.j0] at H
   by_cases c9:x21_1 = true
   ·subst c9
    have H1:(some false) = some r:=by rw [if_pos rfl] at H;exact H
    clear H
    have H:=H1
    clear H1
    obtain rfl:=Option.some.inj H
    go_wp2
    go_ret
    exact ⟨by rfl,by repeat (first | exact Drawn0.refl _ | apply Drawn0.step)⟩
   ·replace c9:=Bool.eq_false_iff.mpr c9
    subst c9
    have H1:(attr_Name.l0 kj1 a0 (a0.size:Int) 0) = some r:=by rw [if_neg (show ¬ (false = true) by decide)] at H;exact H
    clear H
    have H:=H1
    clear H1
    have H':=Aside0.mk H
    clear H
    go_wp2
    go_loopg [24] kj1 (fun kq v24 w'=>∃ (x24_2:Int),v24 = .int .i64 x24_2 ∧ Aside0 (attr_Name.l0 kq a0 (a0.size:Int) x24_2 = some r) ∧ Aside0 (kq ≤ kj1) ∧ Drawn0 w w')
    case atStart=>exact ⟨(0),(by rfl),H',⟨Nat.le_refl _⟩,by repeat (first | exact Drawn0.refl _ | apply Drawn0.step)⟩
    case round =>
     clear H'
     obtain ⟨x24_2,rfl,HA,HK2,⟨m2,rfl⟩⟩:=hrel
     cases gk with
     | zero=>exact absurd HA.out (by simp [attr_Name.l0])
     | succ k2 =>
      have H:=HA.out
      clear HA
      simp only [attr_Name.l0] at H
      by_cases c10:x24_2 < (a0.size:Int)
      ·rw [if_pos c10] at H
       have c10b0:decide (x24_2 < (a0.size:Int)) = true:=decide_eq_true c10
       clear c10
       by_cases c11:0 ≤ x24_2
       ·rw [if_pos c11] at H
        have c11b0:decide (0 ≤ x24_2) = true:=decide_eq_true c11
        clear c11
        by_cases c12:x24_2 < (a0.size:Int)
        ·rw [if_pos c12] at H
         have c12b0:decide (x24_2 < (a0.size:Int)) = true:=decide_eq_true c12
         clear c12
         by_cases c14:(bt a0 x24_2) < 97
         ·rw [if_pos c14] at H
          have c14b0:decide ((bt a0 x24_2) < 97) = true:=decide_eq_true c14
          clear c14
          by_cases c15:(bt a0 x24_2) < 48
          ·rw [if_pos c15] at H
           have c15b0:decide ((bt a0 x24_2) < 48) = true:=decide_eq_true c15
           clear c15
           by_cases c16:(bt a0 x24_2) = 46
           ·rw [if_pos c16] at H
            have c16b0:((bt a0 x24_2) == 46) = true:=beq_iff_eq.mpr c16
            have c16b1:((bt a0 x24_2) != 46) = false:=bne_eq_false_iff_eq.mpr c16
            clear c16
            have H':=Aside0.mk H
            clear H
            have p13:0 ≤ (x24_2:Int):=of_decide_eq_true (by assumption)
            have q13:x24_2 < (a0.size:Int):=of_decide_eq_true (by assumption)
            have hx13:=bt_at a0 x24_2
            replace p13:=eq_true p13
            replace q13:=eq_true q13
            go_wp2
            go_roundg k2
            case measure=>have:=HJ1.out;have:=HK2.out;omega
            case rel=>exact ⟨(wrap64 (x24_2 + 1)),(by rfl),H',⟨by have:=HJ1.out;have:=HK2.out;omega⟩,by repeat (first | exact Drawn0.refl _ | apply Drawn0.step)⟩
           ·rw [if_neg c16] at H
            have c16b0:((bt a0 x24_2) == 46) = false:=beq_eq_false_iff_ne.mpr c16
            have c16b1:((bt a0 x24_2) != 46) = true:=bne_iff_ne.mpr c16
            by_cases c17:(bt a0 x24_2) = 45
            ·rw [if_pos c17] at H
             have c17b0:((bt a0 x24_2) == 45) = true:=beq_iff_eq.mpr c17
             have c17b1:((bt a0 x24_2) != 45) = false:=bne_eq_false_iff_eq.mpr c17
             clear c17
             have H':=Aside0.mk H
             clear H
             have p13:0 ≤ (x24_2:Int):=of_decide_eq_true (by assumption)
             have q13:x24_2 < (a0.size:Int):=of_decide_eq_true (by assumption)
             have hx13:=bt_at a0 x24_2
             replace p13:=eq_true p13
             replace q13:=eq_true q13
             go_wp2
             go_roundg k2
             case measure=>have:=HJ1.out;have:=HK2.out;omega
             case rel=>exact ⟨(wrap64 (x24_2 + 1)),(by rfl),H',⟨by have:=HJ1.out;have:=HK2.out;omega⟩,by repeat (first | exact Drawn0.refl _ | apply Drawn0.step)⟩
            ·rw [if_neg c17] at H
             have c17b0:((bt a0 x24_2) == 45) = false:=beq_eq_false_iff_ne.mpr c17
             have c17b1:((bt a0 x24_2) != 45) = true:=bne_iff_ne.mpr c17
             obtain rfl:=Option.some.inj H
             have p13:0 ≤ (x24_2:Int):=of_decide_eq_true (by assumption)
             have q13:x24_2 < (a0.size:Int):=of_decide_eq_true (by assumption)
             have hx13:=bt_at a0 x24_2
             replace p13:=eq_true p13
             replace q13:=eq_true q13
             go_wp2
             go_ret
             exact ⟨by rfl,by repeat (first | exact Drawn0.refl _ | apply Drawn0.step)⟩
          ·rw [if_neg c15] at H
           have c15b0:decide ((bt a0 x24_2) < 48) = false:=decide_eq_false c15
           clear c15
           by_cases c18:(bt a0 x24_2) > 57
           ·rw [if_pos c18] at H
            have c18b0:decide (57 < (bt a0 x24_2)) = true:=decide_eq_true c18
            clear c18
            by_cases c19:(bt a0 x24_2) = 46
            ·rw [if_pos c19] at H
             have c19b0:((bt a0 x24_2) == 46) = true:=beq_iff_eq.mpr c19
             have c19b1:((bt a0 x24_2) != 46) = false:=bne_eq_false_iff_eq.mpr c19
             clear c19
             have H':=Aside0.mk H
             clear H
             have p13:0 ≤ (x24_2:Int):=of_decide_eq_true (by assumption)
             have q13:x24_2 < (a0.size:Int):=of_decide_eq_true (by assumption)
             have hx13:=bt_at a0 x24_2
             replace p13:=eq_true p13
             replace q13:=eq_true q13
             go_wp2
             go_roundg k2
             case measure=>have:=HJ1.out;have:=HK2.out;omega
             case rel=>exact ⟨(wrap64 (x24_2 + 1)),(by rfl),H',⟨by have:=HJ1.out;have:=HK2.out;omega⟩,by repeat (first | exact Drawn0.refl _ | apply Drawn0.step)⟩
            ·rw [if_neg c19] at H
             have c19b0:((bt a0 x24_2) == 46) = false:=beq_eq_false_iff_ne.mpr c19
             have c19b1:((bt a0 x24_2) != 46) = true:=bne_iff_ne.mpr c19
             by_cases c20:(bt a0 x24_2) = 45
             ·rw [if_pos c20] at H
              have c20b0:((bt a0 x24_2) == 45) = true:=beq_iff_eq.mpr c20
              have c20b1:((bt a0 x24_2) != 45) = false:=bne_eq_false_iff_eq.mpr c20
              clear c20
              have H':=Aside0.mk H
              clear H
              have p13:0 ≤ (x24_2:Int):=of_decide_eq_true (by assumption)
              have q13:x24_2 < (a0.size:Int):=of_decide_eq_true (by assumption)
              have hx13:=bt_at a0 x24_2
              replace p13:=eq_true p13
              replace q13:=eq_true q13
              go_wp2
              go_roundg k2
              case measure=>have:=HJ1.out;have:=HK2.out;omega
              case rel=>exact ⟨(wrap64 (x24_2 + 1)),(by rfl),H',⟨by have:=HJ1.out;have:=HK2.out;omega⟩,by repeat (first | exact Drawn0.refl _ | apply Drawn0.step)⟩
             ·rw [if_neg c20] at H
              have c20b0:((bt a0 x24_2) == 45) = false:=beq_eq_false_iff_ne.mpr c20
              have c20b1:((bt a0 x24_2) != 45) = true:=bne_iff_ne.mpr c20
              obtain rfl:=Option.some.inj H
              have p13:0 ≤ (x24_2:Int):=of_decide_eq_true (by assumption)
              have q13:x24_2 < (a0.size:Int):=of_decide_eq_true (by assumption)
              have hx13:=bt_at a0 x24_2
              replace p13:=eq_true p13
              replace q13:=eq_true q13
              go_wp2
              go_ret
              exact ⟨by rfl,by repeat (first | exact Drawn0.refl _ | apply Drawn0.step)⟩
           ·rw [if_neg c18] at H
            have c18b0:decide (57 < (bt a0 x24_2)) = false:=decide_eq_false c18
            clear c18
            have H':=Aside0.mk H
            clear H
            have p13:0 ≤ (x24_2:Int):=of_decide_eq_true (by assumption)
            have q13:x24_2 < (a0.size:Int):=of_decide_eq_true (by assumption)
            have hx13:=bt_at a0 x24_2
            replace p13:=eq_true p13
            replace q13:=eq_true q13
            go_wp2
            go_roundg k2
            case measure=>have:=HJ1.out;have:=HK2.out;omega
            case rel=>exact ⟨(wrap64 (x24_2 + 1)),(by rfl),H',⟨by have:=HJ1.out;have:=HK2.out;omega⟩,by repeat (first | exact Drawn0.refl _ | apply Drawn0.step)⟩
         ·rw [if_neg c14] at H
          have c14b0:decide ((bt a0 x24_2) < 97) = false:=decide_eq_false c14
          clear c14
          by_cases c21:(bt a0 x24_2) > 122
          ·rw [if_pos c21] at H
           have c21b0:decide (122 < (bt a0 x24_2)) = true:=decide_eq_true c21
           clear c21
           by_cases c22:(bt a0 x24_2) < 48
           ·rw [if_pos c22] at H
            have c22b0:decide ((bt a0 x24_2) < 48) = true:=decide_eq_true c22
            clear c22
            by_cases c23:(bt a0 x24_2) = 46
            ·rw [if_pos c23] at H
             have c23b0:((bt a0 x24_2) == 46) = true:=beq_iff_eq.mpr c23
             have c23b1:((bt a0 x24_2) != 46) = false:=bne_eq_false_iff_eq.mpr c23
             clear c23
             have H':=Aside0.mk H
             clear H
             have p13:0 ≤ (x24_2:Int):=of_decide_eq_true (by assumption)
             have q13:x24_2 < (a0.size:Int):=of_decide_eq_true (by assumption)
             have hx13:=bt_at a0 x24_2
             replace p13:=eq_true p13
             replace q13:=eq_true q13
             go_wp2
             go_roundg k2
             case measure=>have:=HJ1.out;have:=HK2.out;omega
             case rel=>exact ⟨(wrap64 (x24_2 + 1)),(by rfl),H',⟨by have:=HJ1.out;have:=HK2.out;omega⟩,by repeat (first | exact Drawn0.refl _ | apply Drawn0.step)⟩
            ·rw [if_neg c23] at H
             have c23b0:((bt a0 x24_2) == 46) = false:=beq_eq_false_iff_ne.mpr c23
             have c23b1:((bt a0 x24_2) != 46) = true:=bne_iff_ne.mpr c23
             by_cases c24:(bt a0 x24_2) = 45
             ·rw [if_pos c24] at H
              have c24b0:((bt a0 x24_2) == 45) = true:=beq_iff_eq.mpr c24
              have c24b1:((bt a0 x24_2) != 45) = false:=bne_eq_false_iff_eq.mpr c24
              clear c24
              have H':=Aside0.mk H
              clear H
              have p13:0 ≤ (x24_2:Int):=of_decide_eq_true (by assumption)
              have q13:x24_2 < (a0.size:Int):=of_decide_eq_true (by assumption)
              have hx13:=bt_at a0 x24_2
              replace p13:=eq_true p13
              replace q13:=eq_true q13
              go_wp2
              go_roundg k2
              case measure=>have:=HJ1.out;have:=HK2.out;omega
              case rel=>exact ⟨(wrap64 (x24_2 + 1)),(by rfl),H',⟨by have:=HJ1.out;have:=HK2.out;omega⟩,by repeat (first | exact Drawn0.refl _ | apply Drawn0.step)⟩
             ·rw [if_neg c24] at H
              have c24b0:((bt a0 x24_2) == 45) = false:=beq_eq_false_iff_ne.mpr c24
              have c24b1:((bt a0 x24_2) != 45) = true:=bne_iff_ne.mpr c24
              obtain rfl:=Option.some.inj H
              have p13:0 ≤ (x24_2:Int):=of_decide_eq_true (by assumption)
              have q13:x24_2 < (a0.size:Int):=of_decide_eq_true (by assumption)
              have hx13:=bt_at a0 x24_2
              replace p13:=eq_true p13
              replace q13:=eq_true q13
              go_wp2
              go_ret
              exact ⟨by rfl,by repeat (first | exact Drawn0.refl _ | apply Drawn0.step)⟩
           ·rw [if_neg c22] at H
            have c22b0:decide ((bt a0 x24_2) < 48) = false:=decide_eq_false c22
            clear c22
            by_cases c25:(bt a0 x24_2) > 57
            ·rw [if_pos c25] at H
             have c25b0:decide (57 < (bt a0 x24_2)) = true:=decide_eq_true c25
             clear c25
             by_cases c26:(bt a0 x24_2) = 46
             ·rw [if_pos c26] at H
              have c26b0:((bt a0 x24_2) == 46) = true:=beq_iff_eq.mpr c26
              have c26b1:((bt a0 x24_2) != 46) = false:=bne_eq_false_iff_eq.mpr c26
              clear c26
              have H':=Aside0.mk H
              clear H
              have p13:0 ≤ (x24_2:Int):=of_decide_eq_true (by assumption)
              have q13:x24_2 < (a0.size:Int):=of_decide_eq_true (by assumption)
              have hx13:=bt_at a0 x24_2
              replace p13:=eq_true p13
              replace q13:=eq_true q13
              go_wp2
              go_roundg k2
              case measure=>have:=HJ1.out;have:=HK2.out;omega
              case rel=>exact ⟨(wrap64 (x24_2 + 1)),(by rfl),H',⟨by have:=HJ1.out;have:=HK2.out;omega⟩,by repeat (first | exact Drawn0.refl _ | apply Drawn0.step)⟩
             ·rw [if_neg c26] at H
              have c26b0:((bt a0 x24_2) == 46) = false:=beq_eq_false_iff_ne.mpr c26
              have c26b1:((bt a0 x24_2) != 46) = true:=bne_iff_ne.mpr c26
              by_cases c27:(bt a0 x24_2) = 45
              ·rw [if_pos c27] at H
               have c27b0:((bt a0 x24_2) == 45) = true:=beq_iff_eq.mpr c27
               have c27b1:((bt a0 x24_2) != 45) = false:=bne_eq_false_iff_eq.mpr c27
               clear c27
               have H':=Aside0.mk H
               clear H
               have p13:0 ≤ (x24_2:Int):=of_decide_eq_true (by assumption)
               have q13:x24_2 < (a0.size:Int):=of_decide_eq_true (by assumption)
               have hx13:=bt_at a0 x24_2
               replace p13:=eq_true p13
               replace q13:=eq_true q13
               go_wp2
               go_roundg k2
               case measure=>have:=HJ1.out;have:=HK2.out;omega
               case rel=>exact ⟨(wrap64 (x24_2 + 1)),(by rfl),H',⟨by have:=HJ1.out;have:=HK2.out;omega⟩,by repeat (first | exact Drawn0.refl _ | apply Drawn0.step)⟩
              ·rw [if_neg c27] at H
               have c27b0:((bt a0 x24_2) == 45) = false:=beq_eq_false_iff_ne.mpr c27
               have c27b1:((bt a0 x24_2) != 45) = true:=bne_iff_ne.mpr c27
               obtain rfl:=Option.some.inj H
               have p13:0 ≤ (x24_2:Int):=of_decide_eq_true (by assumption)
               have q13:x24_2 < (a0.size:Int):=of_decide_eq_true (by assumption)
               have hx13:=bt_at a0 x24_2
               replace p13:=eq_true p13
               replace q13:=eq_true q13
               go_wp2
               go_ret
               exact ⟨by rfl,by repeat (first | exact Drawn0.refl _ | apply Drawn0.step)⟩
            ·rw [if_neg c25] at H
             have c25b0:decide (57 < (bt a0 x24_2)) = false:=decide_eq_false c25
             clear c25
             have H':=Aside0.mk H
             clear H
             have p13:0 ≤ (x24_2:Int):=of_decide_eq_true (by assumption)
             have q13:x24_2 < (a0.size:Int):=of_decide_eq_true (by assumption)
             have hx13:=bt_at a0 x24_2
             replace p13:=eq_true p13
             replace q13:=eq_true q13
             go_wp2
             go_roundg k2
             case measure=>have:=HJ1.out;have:=HK2.out;omega
             case rel=>exact ⟨(wrap64 (x24_2 + 1)),(by rfl),H',⟨by have:=HJ1.out;have:=HK2.out;omega⟩,by repeat (first | exact Drawn0.refl _ | apply Drawn0.step)⟩
          ·rw [if_neg c21] at H
           have c21b0:decide (122 < (bt a0 x24_2)) = false:=decide_eq_false c21
           clear c21
           have H':=Aside0.mk H
           clear H
           have p13:0 ≤ (x24_2:Int):=of_decide_eq_true (by assumption)
           have q13:x24_2 < (a0.size:Int):=of_decide_eq_true (by assumption)
           have hx13:=bt_at a0 x24_2
           replace p13:=eq_true p13
           replace q13:=eq_true q13
           go_wp2
           go_roundg k2
           case measure=>have:=HJ1.out;have:=HK2.out;omega
           case rel=>exact ⟨(wrap64 (x24_2 + 1)),(by rfl),H',⟨by have:=HJ1.out;have:=HK2.out;omega⟩,by repeat (first | exact Drawn0.refl _ | apply Drawn0.step)⟩
        ·rw [if_neg c12] at H
         exact absurd H (by simp)
       ·rw [if_neg c11] at H
        exact absurd H (by simp)
      ·rw [if_neg c10] at H
       have c10b0:decide (x24_2 < (a0.size:Int)) = false:=decide_eq_false c10
       clear c10
       obtain rfl:=Option.some.inj H
       go_wp2
       go_ret
       exact ⟨by rfl,by repeat (first | exact Drawn0.refl _ | apply Drawn0.step)⟩
mutual
def attr_Value.j0:Nat → ByteArray → Bool → Option (Bool)
 | 0,_,_=>none
 | k + 1,x0,x10=>if x10 = true then (some false) else (attr_Value.l0 k x0 (x0.size:Int) 0)
def attr_Value.l0:Nat → ByteArray → Int → Int → Option (Bool)
 | 0,_,_,_=>none
 | k + 1,x0,x12,x13=>if x13 < x12 then (if 0 ≤ x13 then (if x13 < (x0.size:Int) then (if (bt x0 x13) < 32 then (some false) else (if (bt x0 x13) > 126 then (some false) else (attr_Value.l0 k x0 x12 (wrap64 (x13 + 1))))) else (none)) else (none)) else (some true)
end
def attr_Value.f (k:Nat) (a0:ByteArray):Option (Bool):=if a0.toList = ([]:List UInt8) then (attr_Value.j0 k a0 true) else (attr_Value.j0 k a0 (decide ((a0.size:Int) > 200)))
theorem attr_Value.mono_l:∀ k,(∀ y0 y1,LeO (attr_Value.j0 k y0 y1) (attr_Value.j0 (k + 1) y0 y1)) ∧ (∀ y0 y1 y2,LeO (attr_Value.l0 k y0 y1 y2) (attr_Value.l0 (k + 1) y0 y1 y2))
 | 0=>⟨fun _ _ r h=>by simp [attr_Value.j0] at h,fun _ _ _ r h=>by simp [attr_Value.l0] at h⟩
 | k + 1=>by
  obtain ⟨ih0,ih1⟩:=attr_Value.mono_l k
  refine ⟨?_,?_⟩
  ·intro y0 y1
   unfold attr_Value.j0
   repeat' first | (with_reducible exact ih1 _ _ _) | (with_reducible exact LeO.refl _) | (with_reducible refine LeO.ite ?_ ?_)
  ·intro y0 y1 y2
   unfold attr_Value.l0
   repeat' first | (with_reducible exact ih1 _ _ _) | (with_reducible exact LeO.refl _) | (with_reducible refine LeO.ite ?_ ?_)
theorem attr_Value.mono:∀ a0 k,LeO (attr_Value.f k a0) (attr_Value.f (k + 1) a0):=by
 intro a0 k
 obtain ⟨ih0,ih1⟩:=attr_Value.mono_l k
 unfold attr_Value.f
 repeat' first | (with_reducible exact ih0 _ _) | (with_reducible refine LeO.ite ?_ ?_)
set_option maxHeartbeats 8000000 in
set_option maxRecDepth 100000 in
theorem attr_Value.calls (k:Nat) (a0:ByteArray) (r:Bool) (w:World) (h:attr_Value.f k a0 = some r) :
 Calls Try.prog 141 #[.string a0] w fun e w'=>e = .returned (.bool r) ∧ Drawn0 w w':=by
 have H:(if a0.toList = ([]:List UInt8) then (attr_Value.j0 k a0 true) else (attr_Value.j0 k a0 (decide ((a0.size:Int) > 200)))) = some r:=h
 clear h
 have HC2:=Aside0.mk H
 clear H
 go_enter Try.func141,Try.ntmps141
 go_upto_region 1 with (fail)
 go_cut [10] (fun v10 wc=>∃ (kq:Nat) (x10_1:Bool),v10 = .bool x10_1 ∧ Aside0 (attr_Value.j0 kq a0 x10_1 = some r) ∧ Aside0 (kq ≤ k) ∧ Drawn0 w wc)
 case first =>
  have H:=HC2.out
  clear HC2
  by_cases c3:a0.toList = ([]:List UInt8)
  ·rw [if_pos c3] at H
   have c3b0:(a0.toList == ([]:List UInt8)) = true:=beq_iff_eq.mpr c3
   have c3b1:(a0.toList != ([]:List UInt8)) = false:=bne_eq_false_iff_eq.mpr c3
   clear c3
   (skip)
   have H':=Aside0.mk H
   clear H
   go_wp2
   go_meet
   case rel=>exact ⟨_,(true),(by rfl),H',⟨by omega⟩,by repeat (exact Drawn0.refl _)⟩
  ·rw [if_neg c3] at H
   have c3b0:(a0.toList == ([]:List UInt8)) = false:=beq_eq_false_iff_ne.mpr c3
   have c3b1:(a0.toList != ([]:List UInt8)) = true:=bne_iff_ne.mpr c3
   (skip)
   have H':=Aside0.mk H
   clear H
   go_wp2
   go_meet
   case rel=>exact ⟨_,(decide ((a0.size:Int) > 200)),(by rfl),H',⟨by omega⟩,by repeat (exact Drawn0.refl _)⟩
 case rest =>
  clear HC2
  obtain ⟨kq,x10_1,rfl,HA,HJ1,⟨mc1,rfl⟩⟩:=hcut
  cases kq with
  | zero=>exact absurd HA.out (by simp [attr_Value.j0])
  | succ kj1 =>
   have H:=HA.out
   clear HA
   simp only [attr_Value.j0] at H
   by_cases c4:x10_1 = true
   ·subst c4
    have H1:(some false) = some r:=by rw [if_pos rfl] at H;exact H
    clear H
    have H:=H1
    clear H1
    obtain rfl:=Option.some.inj H
    go_wp2
    go_ret
    exact ⟨by rfl,by repeat (first | exact Drawn0.refl _ | apply Drawn0.step)⟩
   ·replace c4:=Bool.eq_false_iff.mpr c4
    subst c4
    have H1:(attr_Value.l0 kj1 a0 (a0.size:Int) 0) = some r:=by rw [if_neg (show ¬ (false = true) by decide)] at H;exact H
    clear H
    have H:=H1
    clear H1
    have H':=Aside0.mk H
    clear H
    go_wp2
    go_loopg [13] kj1 (fun kq v13 w'=>∃ (x13_2:Int),v13 = .int .i64 x13_2 ∧ Aside0 (attr_Value.l0 kq a0 (a0.size:Int) x13_2 = some r) ∧ Aside0 (kq ≤ kj1) ∧ Drawn0 w w')
    case atStart=>exact ⟨(0),(by rfl),H',⟨Nat.le_refl _⟩,by repeat (first | exact Drawn0.refl _ | apply Drawn0.step)⟩
    case round =>
     clear H'
     obtain ⟨x13_2,rfl,HA,HK2,⟨m2,rfl⟩⟩:=hrel
     cases gk with
     | zero=>exact absurd HA.out (by simp [attr_Value.l0])
     | succ k2 =>
      have H:=HA.out
      clear HA
      simp only [attr_Value.l0] at H
      by_cases c5:x13_2 < (a0.size:Int)
      ·rw [if_pos c5] at H
       have c5b0:decide (x13_2 < (a0.size:Int)) = true:=decide_eq_true c5
       clear c5
       by_cases c6:0 ≤ x13_2
       ·rw [if_pos c6] at H
        have c6b0:decide (0 ≤ x13_2) = true:=decide_eq_true c6
        clear c6
        by_cases c7:x13_2 < (a0.size:Int)
        ·rw [if_pos c7] at H
         have c7b0:decide (x13_2 < (a0.size:Int)) = true:=decide_eq_true c7
         clear c7
         by_cases c9:(bt a0 x13_2) < 32
         ·rw [if_pos c9] at H
          have c9b0:decide ((bt a0 x13_2) < 32) = true:=decide_eq_true c9
          clear c9
          obtain rfl:=Option.some.inj H
          have p8:0 ≤ (x13_2:Int):=of_decide_eq_true (by assumption)
          have q8:x13_2 < (a0.size:Int):=of_decide_eq_true (by assumption)
          have hx8:=bt_at a0 x13_2
          replace p8:=eq_true p8
          replace q8:=eq_true q8
          go_wp2
          go_ret
          exact ⟨by rfl,by repeat (first | exact Drawn0.refl _ | apply Drawn0.step)⟩
         ·rw [if_neg c9] at H
          have c9b0:decide ((bt a0 x13_2) < 32) = false:=decide_eq_false c9
          clear c9
          by_cases c11:(bt a0 x13_2) > 126
          ·rw [if_pos c11] at H
           have c11b0:decide (126 < (bt a0 x13_2)) = true:=decide_eq_true c11
           clear c11
           obtain rfl:=Option.some.inj H
           have p8:0 ≤ (x13_2:Int):=of_decide_eq_true (by assumption)
           have q8:x13_2 < (a0.size:Int):=of_decide_eq_true (by assumption)
           have hx8:=bt_at a0 x13_2
           replace p8:=eq_true p8
           replace q8:=eq_true q8
           have p10:0 ≤ (x13_2:Int):=of_decide_eq_true (by assumption)
           have q10:x13_2 < (a0.size:Int):=of_decide_eq_true (by assumption)
           have hx10:=bt_at a0 x13_2
           replace p10:=eq_true p10
           replace q10:=eq_true q10
           go_wp2
           go_ret
           exact ⟨by rfl,by repeat (first | exact Drawn0.refl _ | apply Drawn0.step)⟩
          ·rw [if_neg c11] at H
           have c11b0:decide (126 < (bt a0 x13_2)) = false:=decide_eq_false c11
           clear c11
           have H':=Aside0.mk H
           clear H
           have p8:0 ≤ (x13_2:Int):=of_decide_eq_true (by assumption)
           have q8:x13_2 < (a0.size:Int):=of_decide_eq_true (by assumption)
           have hx8:=bt_at a0 x13_2
           replace p8:=eq_true p8
           replace q8:=eq_true q8
           have p10:0 ≤ (x13_2:Int):=of_decide_eq_true (by assumption)
           have q10:x13_2 < (a0.size:Int):=of_decide_eq_true (by assumption)
           have hx10:=bt_at a0 x13_2
           replace p10:=eq_true p10
           replace q10:=eq_true q10
           go_wp2
           go_roundg k2
           case measure=>have:=HJ1.out;have:=HK2.out;omega
           case rel=>exact ⟨(wrap64 (x13_2 + 1)),(by rfl),H',⟨by have:=HJ1.out;have:=HK2.out;omega⟩,by repeat (first | exact Drawn0.refl _ | apply Drawn0.step)⟩
        ·rw [if_neg c7] at H
         exact absurd H (by simp)
       ·rw [if_neg c6] at H
        exact absurd H (by simp)
      ·rw [if_neg c5] at H
       have c5b0:decide (x13_2 < (a0.size:Int)) = false:=decide_eq_false c5
       clear c5
       obtain rfl:=Option.some.inj H
       go_wp2
       go_ret
       exact ⟨by rfl,by repeat (first | exact Drawn0.refl _ | apply Drawn0.step)⟩
mutual
def attr_check.l0:Nat → List (S91) → Bool → List (S91) → Int → Int → Option (Int)
 | 0,_,_,_,_,_=>none
 | k + 1,x0,x1,x7,x8,x9=>if x9 < x8 then (if 0 ≤ x9 then (if x9 < (x7.length:Int) then ((attr_Name.f k ((rd_T91 x7 x9).f0)).bind fun t103=>(if t103 = true then ((attr_Value.f k ((rd_T91 x7 x9).f1)).bind fun t104=>(if t104 = true then (attr_check.j1 k x0 x1 x9 x7 x8 x9 false ((rd_T91 x7 x9).f0) ((rd_T91 x7 x9).f1)) else (if x1 = true then (attr_check.j1 k x0 x1 x9 x7 x8 x9 (!(((rd_T91 x7 x9).f1).toList == ([]:List UInt8))) ((rd_T91 x7 x9).f0) ((rd_T91 x7 x9).f1)) else (attr_check.j1 k x0 x1 x9 x7 x8 x9 (!false) ((rd_T91 x7 x9).f0) ((rd_T91 x7 x9).f1))))) else (some 9))) else (none)) else (none)) else (some 0)
def attr_check.j1:Nat → List (S91) → Bool → Int → List (S91) → Int → Int → Bool → ByteArray → ByteArray → Option (Int)
 | 0,_,_,_,_,_,_,_,_,_=>none
 | k + 1,x0,x1,x5,x7,x8,x9,x19,x103000,x103001=>if x19 = true then (some 23) else (if x5 > 0 then (if 0 ≤ (wrap64 (x5 - 1)) then (if (wrap64 (x5 - 1)) < (x0.length:Int) then (if ((Op.bytesLess (((rd_T91 x0 (wrap64 (x5 - 1))).f0).toList) x103000.toList) = true) then (attr_check.l0 k x0 x1 x7 x8 (wrap64 (x9 + 1))) else (some 5)) else (none)) else (none)) else (attr_check.l0 k x0 x1 x7 x8 (wrap64 (x9 + 1))))
end
def attr_check.f (k:Nat) (l0:List (S91)) (a1:Bool):Option (Int):=attr_check.l0 k l0 a1 l0 (l0.length:Int) 0
set_option maxHeartbeats 8000000 in
set_option maxRecDepth 100000 in
theorem attr_check.calls (k:Nat) (A0:Option Addr) (c0:Nat) (l0:List (S91)) (a1:Bool) (r:Int) (w:World) (hr0:Kd.C k91 w A0 l0.length l0) (hc0:l0.length ≤ c0) (h:attr_check.f k l0 a1 = some r) :
 Calls Try.prog 157 #[.slice A0 l0.length c0,.bool a1] w fun e w'=>e = .returned (.int .i64 r) ∧ Below w.heap.size w w':=by
 have hu91:=Try.underlying91
 have HR0:=Aside0.mk hr0
 have HC0:=Aside0.mk hc0
 clear hr0 hc0
 have HB:=Aside0.mk (Below.refl w.heap.size w)
 have H:(attr_check.l0 k l0 a1 l0 (l0.length:Int) 0) = some r:=h
 clear h
 have H':=Aside0.mk H
 clear H
 go_enter Try.func157,Try.ntmps157
 go_wp2
 repeat (go_quiet (fail);try go_wp2)
 go_loopg [9] k (fun kq v9 w'=>∃ (x9_1:Int),v9 = .int .i64 x9_1 ∧ Aside0 (attr_check.l0 kq l0 a1 l0 (l0.length:Int) x9_1 = some r) ∧ Aside0 (kq ≤ k) ∧ Aside0 (Below w.heap.size w w'))
 case atStart=>exact ⟨(0),(by rfl),H',⟨Nat.le_refl _⟩,⟨HB.out⟩⟩
 case round =>
  clear H'
  obtain ⟨x9_1,rfl,HA,HK1,HB⟩:=hrel
  cases gk with
  | zero=>exact absurd HA.out (by simp [attr_check.l0])
  | succ k1 =>
   have H:=HA.out
   clear HA
   simp only [attr_check.l0] at H
   by_cases c3:x9_1 < (l0.length:Int)
   ·rw [if_pos c3] at H
    have c3b0:decide (x9_1 < (l0.length:Int)) = true:=decide_eq_true c3
    clear c3
    by_cases c4:0 ≤ x9_1
    ·rw [if_pos c4] at H
     have c4b0:decide (0 ≤ x9_1) = true:=decide_eq_true c4
     clear c4
     by_cases c5:x9_1 < (l0.length:Int)
     ·rw [if_pos c5] at H
      have c5b0:decide (x9_1 < (l0.length:Int)) = true:=decide_eq_true c5
      clear c5
      replace H:=Option.bind_eq_some_iff.mp H
      obtain ⟨t103,A60,H⟩:=H
      replace H:(if t103 = true then ((attr_Value.f k1 ((rd_T91 l0 x9_1).f1)).bind fun t104=>(if t104 = true then (attr_check.j1 k1 l0 a1 x9_1 l0 (l0.length:Int) x9_1 false ((rd_T91 l0 x9_1).f0) ((rd_T91 l0 x9_1).f1)) else (if a1 = true then (attr_check.j1 k1 l0 a1 x9_1 l0 (l0.length:Int) x9_1 (!(((rd_T91 l0 x9_1).f1).toList == ([]:List UInt8))) ((rd_T91 l0 x9_1).f0) ((rd_T91 l0 x9_1).f1)) else (attr_check.j1 k1 l0 a1 x9_1 l0 (l0.length:Int) x9_1 (!false) ((rd_T91 l0 x9_1).f0) ((rd_T91 l0 x9_1).f1))))) else (some 9)) = some r:=H
      have A6:=Aside0.mk A60
      clear A60
      by_cases c7:t103 = true
      ·subst c7
       have H1:((attr_Value.f k1 ((rd_T91 l0 x9_1).f1)).bind fun t104=>(if t104 = true then (attr_check.j1 k1 l0 a1 x9_1 l0 (l0.length:Int) x9_1 false ((rd_T91 l0 x9_1).f0) ((rd_T91 l0 x9_1).f1)) else (if a1 = true then (attr_check.j1 k1 l0 a1 x9_1 l0 (l0.length:Int) x9_1 (!(((rd_T91 l0 x9_1).f1).toList == ([]:List UInt8))) ((rd_T91 l0 x9_1).f0) ((rd_T91 l0 x9_1).f1)) else (attr_check.j1 k1 l0 a1 x9_1 l0 (l0.length:Int) x9_1 (!false) ((rd_T91 l0 x9_1).f0) ((rd_T91 l0 x9_1).f1))))) = some r:=by rw [if_pos rfl] at H;exact H
       clear H
       have H:=H1
       clear H1
       have HC8:=Aside0.mk H
       clear H
       have p101:0 ≤ (x9_1:Int):=of_decide_eq_true (by assumption)
       have q101:x9_1 < (l0.length:Int):=of_decide_eq_true (by assumption)
       obtain ⟨ad101,e101,hx101_0,hx101_1⟩:=at_T91 HR0.out x9_1 p101 q101
       cases e101
       replace hx101_0:=(HB.out.cell (World.block_lt_of_cell? w _ hx101_0)).trans hx101_0
       replace hx101_1:=(HB.out.cell (World.block_lt_of_cell? w _ hx101_1)).trans hx101_1
       replace p101:=eq_true p101
       replace q101:=eq_true q101
       go_upto_region 6 with (first | ((with_reducible refine gate_dst (N:=6) rfl ?_);refine box_event ?hg (N:=6) ?hd (cs:=#[.string (⟨#[]⟩:ByteArray),.string (⟨#[]⟩:ByteArray)]) (t:=91) ?hr ?_;(case hd=>rfl);(case hg=>rfl);(case hr=>(go_simp;done));intro gb102 hg w9 hbox hb;have n0_:=Aside0.mk (below_step (by with_reducible exact HB.out) hb);have n1_:=Aside0.mk hbox;have n2_:=Aside0.mk ((by rw [hg];exact (below_size (by with_reducible exact HB.out)):w.heap.size ≤ gb102));have n3_:=Aside0.mk ((by rw [hg];exact (below_size (by with_reducible exact HB.out)):w.heap.size ≤ gb102));clear HB;have HB:=n0_;have BK102:=n1_;have GW102:=n2_;have GE102:=n3_;clear n0_ n1_ n2_ n3_;clear hb hbox hg;have hcz10_0:w9.cell? ⟨gb102,0,none⟩ = some (.string (⟨#[]⟩:ByteArray)):=(blk_cell BK102.out 0).trans rfl;have hcz10_1:w9.cell? ⟨gb102,1,none⟩ = some (.string (⟨#[]⟩:ByteArray)):=(blk_cell BK102.out 1).trans rfl;have hfz10_0:=blk_frozen BK102.out 0;have hfz10_1:=blk_frozen BK102.out 1) | (go_at_call 140;(with_reducible refine (attr_Name.calls k1 ((rd_T91 l0 x9_1).f0) true _ A6.out).mono ?_);rintro e w' ⟨rfl,⟨nd,rfl⟩⟩;(try first | exact ⟨rfl,_,World.drewN_drewN _ _ _⟩ | exact ⟨rfl,_,Eq.trans (World.drewN_drewN _ _ _) (congrArg (World.drewN _) (Nat.add_assoc _ _ _))⟩)))
       repeat (go_quiet (first | ((with_reducible refine gate_dst (N:=6) rfl ?_);refine box_event ?hg (N:=6) ?hd (cs:=#[.string (⟨#[]⟩:ByteArray),.string (⟨#[]⟩:ByteArray)]) (t:=91) ?hr ?_;(case hd=>rfl);(case hg=>rfl);(case hr=>first | (go_simp;done) | (go_simp;rfl));intro gb102 hg w9 hbox hb;have n0_:=Aside0.mk (below_step (by with_reducible repeat first | exact HB.out | apply below_alloc | apply pw_below_drewN | apply below_drew1) hb);have n1_:=Aside0.mk hbox;have n2_:=Aside0.mk ((by rw [hg];exact (below_size (by with_reducible repeat first | exact HB.out | apply below_alloc | apply pw_below_drewN | apply below_drew1)):w.heap.size ≤ gb102));have n3_:=Aside0.mk ((by rw [hg];exact (below_size (by with_reducible repeat first | exact HB.out | apply below_alloc | apply pw_below_drewN | apply below_drew1)):w.heap.size ≤ gb102));clear HB;have HB:=n0_;have BK102:=n1_;have GW102:=n2_;have GE102:=n3_;clear n0_ n1_ n2_ n3_;clear hb hbox hg;have hcz10_0:w9.cell? ⟨gb102,0,none⟩ = some (.string (⟨#[]⟩:ByteArray)):=(blk_cell BK102.out 0).trans rfl;have hcz10_1:w9.cell? ⟨gb102,1,none⟩ = some (.string (⟨#[]⟩:ByteArray)):=(blk_cell BK102.out 1).trans rfl;have hfz10_0:=blk_frozen BK102.out 0;have hfz10_1:=blk_frozen BK102.out 1) | (go_at_call 140;(with_reducible refine (attr_Name.calls k1 ((rd_T91 l0 x9_1).f0) true _ A6.out).mono ?_);rintro e w' ⟨rfl,⟨nd,rfl⟩⟩;(try first | exact ⟨rfl,_,World.drewN_drewN _ _ _⟩ | exact ⟨rfl,_,Eq.trans (World.drewN_drewN _ _ _) (congrArg (World.drewN _) (Nat.add_assoc _ _ _))⟩)));go_upto_region 6 with (first | ((with_reducible refine gate_dst (N:=6) rfl ?_);refine box_event ?hg (N:=6) ?hd (cs:=#[.string (⟨#[]⟩:ByteArray),.string (⟨#[]⟩:ByteArray)]) (t:=91) ?hr ?_;(case hd=>rfl);(case hg=>rfl);(case hr=>first | (go_simp;done) | (go_simp;rfl));intro gb102 hg w9 hbox hb;have n0_:=Aside0.mk (below_step (by with_reducible repeat first | exact HB.out | apply below_alloc | apply pw_below_drewN | apply below_drew1) hb);have n1_:=Aside0.mk hbox;have n2_:=Aside0.mk ((by rw [hg];exact (below_size (by with_reducible repeat first | exact HB.out | apply below_alloc | apply pw_below_drewN | apply below_drew1)):w.heap.size ≤ gb102));have n3_:=Aside0.mk ((by rw [hg];exact (below_size (by with_reducible repeat first | exact HB.out | apply below_alloc | apply pw_below_drewN | apply below_drew1)):w.heap.size ≤ gb102));clear HB;have HB:=n0_;have BK102:=n1_;have GW102:=n2_;have GE102:=n3_;clear n0_ n1_ n2_ n3_;clear hb hbox hg;have hcz10_0:w9.cell? ⟨gb102,0,none⟩ = some (.string (⟨#[]⟩:ByteArray)):=(blk_cell BK102.out 0).trans rfl;have hcz10_1:w9.cell? ⟨gb102,1,none⟩ = some (.string (⟨#[]⟩:ByteArray)):=(blk_cell BK102.out 1).trans rfl;have hfz10_0:=blk_frozen BK102.out 0;have hfz10_1:=blk_frozen BK102.out 1) | (go_at_call 140;(with_reducible refine (attr_Name.calls k1 ((rd_T91 l0 x9_1).f0) true _ A6.out).mono ?_);rintro e w' ⟨rfl,⟨nd,rfl⟩⟩;(try first | exact ⟨rfl,_,World.drewN_drewN _ _ _⟩ | exact ⟨rfl,_,Eq.trans (World.drewN_drewN _ _ _) (congrArg (World.drewN _) (Nat.add_assoc _ _ _))⟩))))
       (try simp only [Act.put,List.setIfInBounds_toArray,List.set_cons_zero,List.set_cons_succ])
       go_cut [19] (fun v19 wc=>∃ (kq:Nat) (x19_7:Bool),v19 = .bool x19_7 ∧ Aside0 (attr_check.j1 kq l0 a1 x9_1 l0 (l0.length:Int) x9_1 x19_7 ((rd_T91 l0 x9_1).f0) ((rd_T91 l0 x9_1).f1) = some r) ∧ Aside0 (kq ≤ k1) ∧ Aside0 (wc.heap[gb102]? = some (.cells #[.string ((rd_T91 l0 x9_1).f0),.string ((rd_T91 l0 x9_1).f1)] 91 (0,0))) ∧ Aside0 (Below w.heap.size w wc))
       case first =>
        have H:=HC8.out
        clear HC8
        replace H:=Option.bind_eq_some_iff.mp H
        obtain ⟨t104,A110,H⟩:=H
        replace H:(if t104 = true then (attr_check.j1 k1 l0 a1 x9_1 l0 (l0.length:Int) x9_1 false ((rd_T91 l0 x9_1).f0) ((rd_T91 l0 x9_1).f1)) else (if a1 = true then (attr_check.j1 k1 l0 a1 x9_1 l0 (l0.length:Int) x9_1 (!(((rd_T91 l0 x9_1).f1).toList == ([]:List UInt8))) ((rd_T91 l0 x9_1).f0) ((rd_T91 l0 x9_1).f1)) else (attr_check.j1 k1 l0 a1 x9_1 l0 (l0.length:Int) x9_1 (!false) ((rd_T91 l0 x9_1).f0) ((rd_T91 l0 x9_1).f1)))) = some r:=H
        have A11:=Aside0.mk A110
        clear A110
        by_cases c12:t104 = true
        ·subst c12
         have H1:(attr_check.j1 k1 l0 a1 x9_1 l0 (l0.length:Int) x9_1 false ((rd_T91 l0 x9_1).f0) ((rd_T91 l0 x9_1).f1)) = some r:=by rw [if_pos rfl] at H;exact H
         clear H
         have H:=H1
         clear H1
         have H':=Aside0.mk H
         clear H
         have hcz13_0:w9.cell? ⟨gb102,0,none⟩ = some (.string (⟨#[]⟩:ByteArray)):=(blk_cell BK102.out 0).trans rfl
         have hcz13_1:w9.cell? ⟨gb102,1,none⟩ = some (.string (⟨#[]⟩:ByteArray)):=(blk_cell BK102.out 1).trans rfl
         have hfz13_0:=blk_frozen BK102.out 0
         have hfz13_1:=blk_frozen BK102.out 1
         go_wp2_with ((go_at_call 141;(with_reducible refine (attr_Value.calls k1 ((rd_T91 l0 x9_1).f1) true _ A11.out).mono ?_);rintro e w' ⟨rfl,⟨nd,rfl⟩⟩;(try first | exact ⟨rfl,_,World.drewN_drewN _ _ _⟩ | exact ⟨rfl,_,Eq.trans (World.drewN_drewN _ _ _) (congrArg (World.drewN _) (Nat.add_assoc _ _ _))⟩)))
         repeat (go_quiet ((go_at_call 141;(with_reducible refine (attr_Value.calls k1 ((rd_T91 l0 x9_1).f1) true _ A11.out).mono ?_);rintro e w' ⟨rfl,⟨nd,rfl⟩⟩;(try first | exact ⟨rfl,_,World.drewN_drewN _ _ _⟩ | exact ⟨rfl,_,Eq.trans (World.drewN_drewN _ _ _) (congrArg (World.drewN _) (Nat.add_assoc _ _ _))⟩)));try go_wp2_with ((go_at_call 141;(with_reducible refine (attr_Value.calls k1 ((rd_T91 l0 x9_1).f1) true _ A11.out).mono ?_);rintro e w' ⟨rfl,⟨nd,rfl⟩⟩;(try first | exact ⟨rfl,_,World.drewN_drewN _ _ _⟩ | exact ⟨rfl,_,Eq.trans (World.drewN_drewN _ _ _) (congrArg (World.drewN _) (Nat.add_assoc _ _ _))⟩))))
         go_meet
         case rel=>exact ⟨_,(false),(by rfl),H',⟨by have:=HK1.out;omega⟩,⟨by (with_reducible repeat (refine blk_drewN ?_ _));refine blk_put (cs:=#[.string ((rd_T91 l0 x9_1).f0),.string (⟨#[]⟩:ByteArray)]) ?_ 1 _ rfl;(with_reducible repeat (first | refine blk_drewN ?_ _ | refine blk_drew ?_ | refine blk_alloc ?_ _));refine blk_put (cs:=#[.string (⟨#[]⟩:ByteArray),.string (⟨#[]⟩:ByteArray)]) ?_ 0 _ rfl;exact BK102.out⟩,⟨by repeat ((with_reducible first | exact HB.out | apply pw_below_drewN | refine below_set ?_ GE102.out))⟩⟩
        ·replace c12:=Bool.eq_false_iff.mpr c12
         subst c12
         have H1:(if a1 = true then (attr_check.j1 k1 l0 a1 x9_1 l0 (l0.length:Int) x9_1 (!(((rd_T91 l0 x9_1).f1).toList == ([]:List UInt8))) ((rd_T91 l0 x9_1).f0) ((rd_T91 l0 x9_1).f1)) else (attr_check.j1 k1 l0 a1 x9_1 l0 (l0.length:Int) x9_1 (!false) ((rd_T91 l0 x9_1).f0) ((rd_T91 l0 x9_1).f1))) = some r:=by rw [if_neg (show ¬ (false = true) by decide)] at H;exact H
         clear H
         have H:=H1
         clear H1
         by_cases c14:a1 = true
         ·subst c14
          have H1:(attr_check.j1 k1 l0 true x9_1 l0 (l0.length:Int) x9_1 (!(((rd_T91 l0 x9_1).f1).toList == ([]:List UInt8))) ((rd_T91 l0 x9_1).f0) ((rd_T91 l0 x9_1).f1)) = some r:=by rw [if_pos rfl] at H;exact H
          clear H
          have H:=H1
          clear H1
          have H':=Aside0.mk H
          clear H
          have hcz15_0:w9.cell? ⟨gb102,0,none⟩ = some (.string (⟨#[]⟩:ByteArray)):=(blk_cell BK102.out 0).trans rfl
          have hcz15_1:w9.cell? ⟨gb102,1,none⟩ = some (.string (⟨#[]⟩:ByteArray)):=(blk_cell BK102.out 1).trans rfl
          have hfz15_0:=blk_frozen BK102.out 0
          have hfz15_1:=blk_frozen BK102.out 1
          go_wp2_with ((go_at_call 141;(with_reducible refine (attr_Value.calls k1 ((rd_T91 l0 x9_1).f1) false _ A11.out).mono ?_);rintro e w' ⟨rfl,⟨nd,rfl⟩⟩;(try first | exact ⟨rfl,_,World.drewN_drewN _ _ _⟩ | exact ⟨rfl,_,Eq.trans (World.drewN_drewN _ _ _) (congrArg (World.drewN _) (Nat.add_assoc _ _ _))⟩)))
          repeat (go_quiet ((go_at_call 141;(with_reducible refine (attr_Value.calls k1 ((rd_T91 l0 x9_1).f1) false _ A11.out).mono ?_);rintro e w' ⟨rfl,⟨nd,rfl⟩⟩;(try first | exact ⟨rfl,_,World.drewN_drewN _ _ _⟩ | exact ⟨rfl,_,Eq.trans (World.drewN_drewN _ _ _) (congrArg (World.drewN _) (Nat.add_assoc _ _ _))⟩)));try go_wp2_with ((go_at_call 141;(with_reducible refine (attr_Value.calls k1 ((rd_T91 l0 x9_1).f1) false _ A11.out).mono ?_);rintro e w' ⟨rfl,⟨nd,rfl⟩⟩;(try first | exact ⟨rfl,_,World.drewN_drewN _ _ _⟩ | exact ⟨rfl,_,Eq.trans (World.drewN_drewN _ _ _) (congrArg (World.drewN _) (Nat.add_assoc _ _ _))⟩))))
          go_meet
          case rel=>exact ⟨_,(!(((rd_T91 l0 x9_1).f1).toList == ([]:List UInt8))),(by (simp;done)),H',⟨by have:=HK1.out;omega⟩,⟨by (with_reducible repeat (refine blk_drewN ?_ _));refine blk_put (cs:=#[.string ((rd_T91 l0 x9_1).f0),.string (⟨#[]⟩:ByteArray)]) ?_ 1 _ rfl;(with_reducible repeat (first | refine blk_drewN ?_ _ | refine blk_drew ?_ | refine blk_alloc ?_ _));refine blk_put (cs:=#[.string (⟨#[]⟩:ByteArray),.string (⟨#[]⟩:ByteArray)]) ?_ 0 _ rfl;exact BK102.out⟩,⟨by repeat ((with_reducible first | exact HB.out | apply pw_below_drewN | refine below_set ?_ GE102.out))⟩⟩
         ·replace c14:=Bool.eq_false_iff.mpr c14
          subst c14
          have H1:(attr_check.j1 k1 l0 false x9_1 l0 (l0.length:Int) x9_1 (!false) ((rd_T91 l0 x9_1).f0) ((rd_T91 l0 x9_1).f1)) = some r:=by rw [if_neg (show ¬ (false = true) by decide)] at H;exact H
          clear H
          have H:=H1
          clear H1
          have H':=Aside0.mk H
          clear H
          have hcz16_0:w9.cell? ⟨gb102,0,none⟩ = some (.string (⟨#[]⟩:ByteArray)):=(blk_cell BK102.out 0).trans rfl
          have hcz16_1:w9.cell? ⟨gb102,1,none⟩ = some (.string (⟨#[]⟩:ByteArray)):=(blk_cell BK102.out 1).trans rfl
          have hfz16_0:=blk_frozen BK102.out 0
          have hfz16_1:=blk_frozen BK102.out 1
          go_wp2_with ((go_at_call 141;(with_reducible refine (attr_Value.calls k1 ((rd_T91 l0 x9_1).f1) false _ A11.out).mono ?_);rintro e w' ⟨rfl,⟨nd,rfl⟩⟩;(try first | exact ⟨rfl,_,World.drewN_drewN _ _ _⟩ | exact ⟨rfl,_,Eq.trans (World.drewN_drewN _ _ _) (congrArg (World.drewN _) (Nat.add_assoc _ _ _))⟩)))
          repeat (go_quiet ((go_at_call 141;(with_reducible refine (attr_Value.calls k1 ((rd_T91 l0 x9_1).f1) false _ A11.out).mono ?_);rintro e w' ⟨rfl,⟨nd,rfl⟩⟩;(try first | exact ⟨rfl,_,World.drewN_drewN _ _ _⟩ | exact ⟨rfl,_,Eq.trans (World.drewN_drewN _ _ _) (congrArg (World.drewN _) (Nat.add_assoc _ _ _))⟩)));try go_wp2_with ((go_at_call 141;(with_reducible refine (attr_Value.calls k1 ((rd_T91 l0 x9_1).f1) false _ A11.out).mono ?_);rintro e w' ⟨rfl,⟨nd,rfl⟩⟩;(try first | exact ⟨rfl,_,World.drewN_drewN _ _ _⟩ | exact ⟨rfl,_,Eq.trans (World.drewN_drewN _ _ _) (congrArg (World.drewN _) (Nat.add_assoc _ _ _))⟩))))
          go_meet
          case rel=>exact ⟨_,(!false),(by rfl),H',⟨by have:=HK1.out;omega⟩,⟨by (with_reducible repeat (refine blk_drewN ?_ _));refine blk_put (cs:=#[.string ((rd_T91 l0 x9_1).f0),.string (⟨#[]⟩:ByteArray)]) ?_ 1 _ rfl;(with_reducible repeat (first | refine blk_drewN ?_ _ | refine blk_drew ?_ | refine blk_alloc ?_ _));refine blk_put (cs:=#[.string (⟨#[]⟩:ByteArray),.string (⟨#[]⟩:ByteArray)]) ?_ 0 _ rfl;exact BK102.out⟩,⟨by repeat ((with_reducible first | exact HB.out | apply pw_below_drewN | refine below_set ?_ GE102.out))⟩⟩
       case rest =>
        clear HC8
        try clear c3b0
        try clear c4b0
        try clear c5b0
        try clear hcz10_0
        try clear hcz10_1
        try clear hfz10_0
        try clear hfz10_1
        try clear hx101_0
        try clear hx101_1
        try clear p101
        try clear q101
        obtain ⟨kq,x19_7,rfl,HA,HJ7,BK102,HB⟩:=hcut
        cases kq with
        | zero=>exact absurd HA.out (by simp [attr_check.j1])
        | succ kj7 =>
         have H:=HA.out
         clear HA
         simp only [attr_check.j1] at H
         by_cases c17:x19_7 = true
         ·subst c17
          have H1:(some 23) = some r:=by rw [if_pos rfl] at H;exact H
          clear H
          have H:=H1
          clear H1
          obtain rfl:=Option.some.inj H
          go_wp2
          repeat (go_quiet (fail);try go_wp2)
          go_ret
          exact ⟨by rfl,HB.out⟩
         ·replace c17:=Bool.eq_false_iff.mpr c17
          subst c17
          have H1:(if x9_1 > 0 then (if 0 ≤ (wrap64 (x9_1 - 1)) then (if (wrap64 (x9_1 - 1)) < (l0.length:Int) then (if ((Op.bytesLess (((rd_T91 l0 (wrap64 (x9_1 - 1))).f0).toList) ((rd_T91 l0 x9_1).f0).toList) = true) then (attr_check.l0 kj7 l0 a1 l0 (l0.length:Int) (wrap64 (x9_1 + 1))) else (some 5)) else (none)) else (none)) else (attr_check.l0 kj7 l0 a1 l0 (l0.length:Int) (wrap64 (x9_1 + 1)))) = some r:=by rw [if_neg (show ¬ (false = true) by decide)] at H;exact H
          clear H
          have H:=H1
          clear H1
          by_cases c18:x9_1 > 0
          ·rw [if_pos c18] at H
           have c18b0:decide (0 < x9_1) = true:=decide_eq_true c18
           clear c18
           obtain ⟨ji19,hji19⟩:∃ j_:Int,(wrap64 (x9_1 - 1)) = j_:=⟨_,rfl⟩
           replace H:(if 0 ≤ (ji19) then (if (ji19) < (l0.length:Int) then (if ((Op.bytesLess (((rd_T91 l0 (ji19)).f0).toList) ((rd_T91 l0 x9_1).f0).toList) = true) then (attr_check.l0 kj7 l0 a1 l0 (l0.length:Int) (wrap64 (x9_1 + 1))) else (some 5)) else (none)) else (none)) = some r:=by (rw [hji19] at H;exact H)
           have hji19w:(IntKind.i64.wrap (x9_1 - 1)) = ji19:=(i64_w _).trans hji19
           by_cases c20:0 ≤ (ji19)
           ·rw [if_pos c20] at H
            have c20b0:decide (0 ≤ (ji19)) = true:=decide_eq_true c20
            clear c20
            by_cases c21:(ji19) < (l0.length:Int)
            ·rw [if_pos c21] at H
             have c21b0:decide ((ji19) < (l0.length:Int)) = true:=decide_eq_true c21
             clear c21
             by_cases c22:((Op.bytesLess (((rd_T91 l0 (ji19)).f0).toList) ((rd_T91 l0 x9_1).f0).toList) = true)
             ·rw [if_pos c22] at H
              have c22b0:(Op.bytesLess (((rd_T91 l0 (ji19)).f0).toList) ((rd_T91 l0 x9_1).f0).toList) = true:=c22
              clear c22
              have H':=Aside0.mk H
              clear H
              have hcz23_0:wc.cell? ⟨gb102,0,none⟩ = some (.string ((rd_T91 l0 x9_1).f0)):=(blk_cell BK102.out 0).trans rfl
              have hcz23_1:wc.cell? ⟨gb102,1,none⟩ = some (.string ((rd_T91 l0 x9_1).f1)):=(blk_cell BK102.out 1).trans rfl
              have hfz23_0:=blk_frozen BK102.out 0
              have hfz23_1:=blk_frozen BK102.out 1
              have p105:0 ≤ ((ji19):Int):=of_decide_eq_true (by assumption)
              have q105:(ji19) < (l0.length:Int):=of_decide_eq_true (by assumption)
              obtain ⟨ad105,e105,hx105_0,hx105_1⟩:=at_T91 HR0.out (ji19) p105 q105
              obtain rfl:ad101 = ad105:=(by injection e105)
              replace hx105_0:=(HB.out.cell (World.block_lt_of_cell? w _ hx105_0)).trans hx105_0
              replace hx105_1:=(HB.out.cell (World.block_lt_of_cell? w _ hx105_1)).trans hx105_1
              replace p105:=eq_true p105
              replace q105:=eq_true q105
              go_wp2
              repeat (go_quiet (fail);try go_wp2)
              go_roundg kj7
              case measure=>have:=HK1.out;have:=HJ7.out;omega
              case rel=>exact ⟨(wrap64 (x9_1 + 1)),(by rfl),H',⟨by have:=HK1.out;have:=HJ7.out;omega⟩,⟨by repeat ((with_reducible first | exact HB.out | apply pw_below_drewN))⟩⟩
             ·rw [if_neg c22] at H
              have c22b0:(Op.bytesLess (((rd_T91 l0 (ji19)).f0).toList) ((rd_T91 l0 x9_1).f0).toList) = false:=by simpa using c22
              clear c22
              obtain rfl:=Option.some.inj H
              have hcz24_0:wc.cell? ⟨gb102,0,none⟩ = some (.string ((rd_T91 l0 x9_1).f0)):=(blk_cell BK102.out 0).trans rfl
              have hcz24_1:wc.cell? ⟨gb102,1,none⟩ = some (.string ((rd_T91 l0 x9_1).f1)):=(blk_cell BK102.out 1).trans rfl
              have hfz24_0:=blk_frozen BK102.out 0
              have hfz24_1:=blk_frozen BK102.out 1
              have p105:0 ≤ ((ji19):Int):=of_decide_eq_true (by assumption)
              have q105:(ji19) < (l0.length:Int):=of_decide_eq_true (by assumption)
              obtain ⟨ad105,e105,hx105_0,hx105_1⟩:=at_T91 HR0.out (ji19) p105 q105
              obtain rfl:ad101 = ad105:=(by injection e105)
              replace hx105_0:=(HB.out.cell (World.block_lt_of_cell? w _ hx105_0)).trans hx105_0
              replace hx105_1:=(HB.out.cell (World.block_lt_of_cell? w _ hx105_1)).trans hx105_1
              replace p105:=eq_true p105
              replace q105:=eq_true q105
              go_wp2
              repeat (go_quiet (fail);try go_wp2)
              go_ret
              exact ⟨by rfl,by repeat ((with_reducible first | exact HB.out | apply pw_below_drewN))⟩
            ·rw [if_neg c21] at H
             exact absurd H (by simp)
           ·rw [if_neg c20] at H
            exact absurd H (by simp)
          ·rw [if_neg c18] at H
           have c18b0:decide (0 < x9_1) = false:=decide_eq_false c18
           clear c18
           have H':=Aside0.mk H
           clear H
           go_wp2
           repeat (go_quiet (fail);try go_wp2)
           go_roundg kj7
           case measure=>have:=HK1.out;have:=HJ7.out;omega
           case rel=>exact ⟨(wrap64 (x9_1 + 1)),(by rfl),H',⟨by have:=HK1.out;have:=HJ7.out;omega⟩,⟨by repeat ((with_reducible first | exact HB.out | apply pw_below_drewN))⟩⟩
      ·replace c7:=Bool.eq_false_iff.mpr c7
       subst c7
       have H1:(some 9) = some r:=by rw [if_neg (show ¬ (false = true) by decide)] at H;exact H
       clear H
       have H:=H1
       clear H1
       obtain rfl:=Option.some.inj H
       have p101:0 ≤ (x9_1:Int):=of_decide_eq_true (by assumption)
       have q101:x9_1 < (l0.length:Int):=of_decide_eq_true (by assumption)
       obtain ⟨ad101,e101,hx101_0,hx101_1⟩:=at_T91 HR0.out x9_1 p101 q101
       cases e101
       replace hx101_0:=(HB.out.cell (World.block_lt_of_cell? w _ hx101_0)).trans hx101_0
       replace hx101_1:=(HB.out.cell (World.block_lt_of_cell? w _ hx101_1)).trans hx101_1
       replace p101:=eq_true p101
       replace q101:=eq_true q101
       go_wp2_with (first | ((with_reducible refine gate_dst (N:=6) rfl ?_);refine box_event ?hg (N:=6) ?hd (cs:=#[.string (⟨#[]⟩:ByteArray),.string (⟨#[]⟩:ByteArray)]) (t:=91) ?hr ?_;(case hd=>rfl);(case hg=>rfl);(case hr=>(go_simp;done));intro gb102 hg w25 hbox hb;have n0_:=Aside0.mk (below_step (by with_reducible exact HB.out) hb);have n1_:=Aside0.mk hbox;have n2_:=Aside0.mk ((by rw [hg];exact (below_size (by with_reducible exact HB.out)):w.heap.size ≤ gb102));have n3_:=Aside0.mk ((by rw [hg];exact (below_size (by with_reducible exact HB.out)):w.heap.size ≤ gb102));clear HB;have HB:=n0_;have BK102:=n1_;have GW102:=n2_;have GE102:=n3_;clear n0_ n1_ n2_ n3_;clear hb hbox hg;have hcz26_0:w25.cell? ⟨gb102,0,none⟩ = some (.string (⟨#[]⟩:ByteArray)):=(blk_cell BK102.out 0).trans rfl;have hcz26_1:w25.cell? ⟨gb102,1,none⟩ = some (.string (⟨#[]⟩:ByteArray)):=(blk_cell BK102.out 1).trans rfl;have hfz26_0:=blk_frozen BK102.out 0;have hfz26_1:=blk_frozen BK102.out 1) | (go_at_call 140;(with_reducible refine (attr_Name.calls k1 ((rd_T91 l0 x9_1).f0) false _ A6.out).mono ?_);rintro e w' ⟨rfl,⟨nd,rfl⟩⟩;(try first | exact ⟨rfl,_,World.drewN_drewN _ _ _⟩ | exact ⟨rfl,_,Eq.trans (World.drewN_drewN _ _ _) (congrArg (World.drewN _) (Nat.add_assoc _ _ _))⟩)))
       repeat (go_quiet (first | ((with_reducible refine gate_dst (N:=6) rfl ?_);refine box_event ?hg (N:=6) ?hd (cs:=#[.string (⟨#[]⟩:ByteArray),.string (⟨#[]⟩:ByteArray)]) (t:=91) ?hr ?_;(case hd=>rfl);(case hg=>rfl);(case hr=>first | (go_simp;done) | (go_simp;rfl));intro gb102 hg w25 hbox hb;have n0_:=Aside0.mk (below_step (by with_reducible repeat first | exact HB.out | apply below_alloc | apply pw_below_drewN | apply below_drew1) hb);have n1_:=Aside0.mk hbox;have n2_:=Aside0.mk ((by rw [hg];exact (below_size (by with_reducible repeat first | exact HB.out | apply below_alloc | apply pw_below_drewN | apply below_drew1)):w.heap.size ≤ gb102));have n3_:=Aside0.mk ((by rw [hg];exact (below_size (by with_reducible repeat first | exact HB.out | apply below_alloc | apply pw_below_drewN | apply below_drew1)):w.heap.size ≤ gb102));clear HB;have HB:=n0_;have BK102:=n1_;have GW102:=n2_;have GE102:=n3_;clear n0_ n1_ n2_ n3_;clear hb hbox hg;have hcz26_0:w25.cell? ⟨gb102,0,none⟩ = some (.string (⟨#[]⟩:ByteArray)):=(blk_cell BK102.out 0).trans rfl;have hcz26_1:w25.cell? ⟨gb102,1,none⟩ = some (.string (⟨#[]⟩:ByteArray)):=(blk_cell BK102.out 1).trans rfl;have hfz26_0:=blk_frozen BK102.out 0;have hfz26_1:=blk_frozen BK102.out 1) | (go_at_call 140;(with_reducible refine (attr_Name.calls k1 ((rd_T91 l0 x9_1).f0) false _ A6.out).mono ?_);rintro e w' ⟨rfl,⟨nd,rfl⟩⟩;(try first | exact ⟨rfl,_,World.drewN_drewN _ _ _⟩ | exact ⟨rfl,_,Eq.trans (World.drewN_drewN _ _ _) (congrArg (World.drewN _) (Nat.add_assoc _ _ _))⟩)));try go_wp2_with (first | ((with_reducible refine gate_dst (N:=6) rfl ?_);refine box_event ?hg (N:=6) ?hd (cs:=#[.string (⟨#[]⟩:ByteArray),.string (⟨#[]⟩:ByteArray)]) (t:=91) ?hr ?_;(case hd=>rfl);(case hg=>rfl);(case hr=>first | (go_simp;done) | (go_simp;rfl));intro gb102 hg w25 hbox hb;have n0_:=Aside0.mk (below_step (by with_reducible repeat first | exact HB.out | apply below_alloc | apply pw_below_drewN | apply below_drew1) hb);have n1_:=Aside0.mk hbox;have n2_:=Aside0.mk ((by rw [hg];exact (below_size (by with_reducible repeat first | exact HB.out | apply below_alloc | apply pw_below_drewN | apply below_drew1)):w.heap.size ≤ gb102));have n3_:=Aside0.mk ((by rw [hg];exact (below_size (by with_reducible repeat first | exact HB.out | apply below_alloc | apply pw_below_drewN | apply below_drew1)):w.heap.size ≤ gb102));clear HB;have HB:=n0_;have BK102:=n1_;have GW102:=n2_;have GE102:=n3_;clear n0_ n1_ n2_ n3_;clear hb hbox hg;have hcz26_0:w25.cell? ⟨gb102,0,none⟩ = some (.string (⟨#[]⟩:ByteArray)):=(blk_cell BK102.out 0).trans rfl;have hcz26_1:w25.cell? ⟨gb102,1,none⟩ = some (.string (⟨#[]⟩:ByteArray)):=(blk_cell BK102.out 1).trans rfl;have hfz26_0:=blk_frozen BK102.out 0;have hfz26_1:=blk_frozen BK102.out 1) | (go_at_call 140;(with_reducible refine (attr_Name.calls k1 ((rd_T91 l0 x9_1).f0) false _ A6.out).mono ?_);rintro e w' ⟨rfl,⟨nd,rfl⟩⟩;(try first | exact ⟨rfl,_,World.drewN_drewN _ _ _⟩ | exact ⟨rfl,_,Eq.trans (World.drewN_drewN _ _ _) (congrArg (World.drewN _) (Nat.add_assoc _ _ _))⟩))))
       go_ret
       exact ⟨by rfl,by repeat ((with_reducible first | exact HB.out | apply pw_below_drewN | refine below_set ?_ GE102.out))⟩
     ·rw [if_neg c5] at H
      exact absurd H (by simp)
    ·rw [if_neg c4] at H
     exact absurd H (by simp)
   ·rw [if_neg c3] at H
    have c3b0:decide (x9_1 < (l0.length:Int)) = false:=decide_eq_false c3
    clear c3
    obtain rfl:=Option.some.inj H
    go_wp2
    repeat (go_quiet (fail);try go_wp2)
    go_ret
    exact ⟨by rfl,HB.out⟩
def attr_Check.f (k:Nat) (l0:List (S91)):Option (Int):=(attr_check.f k l0 false).bind fun t106=>(some t106)
set_option maxHeartbeats 8000000 in
set_option maxRecDepth 100000 in
theorem attr_Check.calls (k:Nat) (A0:Option Addr) (c0:Nat) (l0:List (S91)) (r:Int) (w:World) (hr0:Kd.C k91 w A0 l0.length l0) (hc0:l0.length ≤ c0) (h:attr_Check.f k l0 = some r) :
 Calls Try.prog 131 #[.slice A0 l0.length c0] w fun e w'=>e = .returned (.int .i64 r) ∧ Below w.heap.size w w':=by
 have HR0:=Aside0.mk hr0
 have HC0:=Aside0.mk hc0
 clear hr0 hc0
 have HB:=Aside0.mk (Below.refl w.heap.size w)
 have H:((attr_check.f k l0 false).bind fun t106=>(some t106)) = some r:=h
 clear h
 replace H:=Option.bind_eq_some_iff.mp H
 obtain ⟨t106,A20,H⟩:=H
 replace H:(some t106) = some r:=H
 have A2:=Aside0.mk A20
 clear A20
 obtain rfl:=Option.some.inj H
 go_enter Try.func131,Try.ntmps131
 go_wp2_with (((with_reducible refine gate_callee (f:=157) rfl ?_);refine goesL_ (some 4) rfl rfl Try.func157 (by kernel_rfl) rfl #[.slice A0 l0.length c0,.bool false] rfl (by (try simp only [List.map_toArray,List.map_cons,List.map_nil]);rfl) ?_;(with_reducible refine (attr_check.calls k _ _ l0 false t106 _ ?side1 ?side2 A2.out).mono ?_);(case side1=>repeat (exact HR0.out));(case side2=>exact HC0.out);rintro e w3 ⟨rfl,hb⟩;refine ⟨_,rfl,?_⟩;replace HB:=Aside0.mk (below_step (by with_reducible exact HB.out) hb);(try clear hb);(try clear hb2);(try clear hk);(try clear hi)))
 go_ret
 exact ⟨by rfl,HB.out⟩
def flow_elem.j0:Nat → Bool → Int → Int → List (S91) → Option (Int)
 | 0,_,_,_,_=>none
 | k + 1,x11,x108000,x108001,x108002=>if x11 = true then (some 2) else (if x108001 = 0 then ((attr_Check.f k x108002).bind fun t109=>(some t109)) else (if x108001 < 1 then (some 2) else (if x108001 > 1073741824 then (some 2) else ((attr_Check.f k x108002).bind fun t110=>(some t110)))))
def flow_elem.f (k:Nat) (a0_0:Int) (a0_1:Int) (l0_2:List (S91)):Option (Int):=if ((a0_0 != 0) == (a0_1 != 0)) = true then (some 4) else (if a0_1 = 0 then ((flow_Char.f a0_0).bind fun t108=>(flow_elem.j0 k (!t108) a0_0 a0_1 l0_2)) else (flow_elem.j0 k false a0_0 a0_1 l0_2))
set_option maxHeartbeats 8000000 in
set_option maxRecDepth 100000 in
theorem flow_elem.calls (k:Nat) (a0_0:Int) (a0_1:Int) (A0_2:Option Addr) (c0_2:Nat) (l0_2:List (S91)) (r:Int) (w:World) (hr0_2:Kd.C k91 w A0_2 l0_2.length l0_2) (hc0_2:l0_2.length ≤ c0_2) (h:flow_elem.f k a0_0 a0_1 l0_2 = some r) :
 Calls Try.prog 93 #[.agg #[.int .i64 a0_0,.int .i64 a0_1,.slice A0_2 l0_2.length c0_2]] w fun e w'=>e = .returned (.int .i64 r) ∧ Below w.heap.size w w':=by
 have hu26:=Try.underlying26
 have HR0_2:=Aside0.mk hr0_2
 have HC0_2:=Aside0.mk hc0_2
 clear hr0_2 hc0_2
 have HB:=Aside0.mk (Below.refl w.heap.size w)
 have H:(if ((a0_0 != 0) == (a0_1 != 0)) = true then (some 4) else (if a0_1 = 0 then ((flow_Char.f a0_0).bind fun t108=>(flow_elem.j0 k (!t108) a0_0 a0_1 l0_2)) else (flow_elem.j0 k false a0_0 a0_1 l0_2))) = some r:=h
 clear h
 by_cases c2:((a0_0 != 0) == (a0_1 != 0)) = true
 ·rw [if_pos c2] at H
  have c2b0:((a0_0 != 0) == (a0_1 != 0)) = true:=c2
  (try (have c2b1:decide ((a0_0 != 0) = (a0_1 != 0)) = true:=by simpa using c2))
  (try (have c2b2:((a0_0 != 0) == (a0_1 != 0)) = true:=by simpa using c2))
  clear c2
  obtain rfl:=Option.some.inj H
  go_enter Try.func93,Try.ntmps93
  go_wp2_with (((with_reducible refine gate_dst (N:=1) rfl ?_);refine box_event ?hg (N:=1) ?hd (cs:=#[.int .i64 a0_0,.int .i64 a0_1,.slice A0_2 l0_2.length c0_2]) (t:=26) ?hr ?_;(case hd=>rfl);(case hg=>rfl);(case hr=>(go_simp;done));intro gb107 hg w3 hbox hb;have n0_:=Aside0.mk (below_step (by with_reducible exact HB.out) hb);have n1_:=Aside0.mk hbox;have n2_:=Aside0.mk ((by rw [hg];exact (below_size (by with_reducible exact HB.out)):w.heap.size ≤ gb107));have n3_:=Aside0.mk ((by rw [hg];exact (below_size (by with_reducible exact HB.out)):w.heap.size ≤ gb107));clear HB;have HB:=n0_;have BK107:=n1_;have GW107:=n2_;have GE107:=n3_;clear n0_ n1_ n2_ n3_;clear hb hbox hg;have hcz4_0:w3.cell? ⟨gb107,0,none⟩ = some (.int .i64 a0_0):=(blk_cell BK107.out 0).trans rfl;have hcz4_1:w3.cell? ⟨gb107,1,none⟩ = some (.int .i64 a0_1):=(blk_cell BK107.out 1).trans rfl;have hcz4_2:w3.cell? ⟨gb107,2,none⟩ = some (.slice A0_2 l0_2.length c0_2):=(blk_cell BK107.out 2).trans rfl;have hfz4_0:=blk_frozen BK107.out 0;have hfz4_1:=blk_frozen BK107.out 1;have hfz4_2:=blk_frozen BK107.out 2))
  go_ret
  exact ⟨by rfl,HB.out⟩
 ·rw [if_neg c2] at H
  have c2b0:((a0_0 != 0) == (a0_1 != 0)) = false:=by simpa using c2
  (try (have c2b1:decide ((a0_0 != 0) = (a0_1 != 0)) = false:=by simpa using c2))
  (try (have c2b2:((a0_0 != 0) == (a0_1 != 0)) = false:=by simpa using c2))
  (try (have c2b3:¬ ((a0_0 != 0) = (a0_1 != 0)):=by simpa using c2))
  clear c2
  have HC5:=Aside0.mk H
  clear H
  go_enter Try.func93,Try.ntmps93
  go_upto_region 3 with (((with_reducible refine gate_dst (N:=1) rfl ?_);refine box_event ?hg (N:=1) ?hd (cs:=#[.int .i64 a0_0,.int .i64 a0_1,.slice A0_2 l0_2.length c0_2]) (t:=26) ?hr ?_;(case hd=>rfl);(case hg=>rfl);(case hr=>(go_simp;done));intro gb107 hg w6 hbox hb;have n0_:=Aside0.mk (below_step (by with_reducible exact HB.out) hb);have n1_:=Aside0.mk hbox;have n2_:=Aside0.mk ((by rw [hg];exact (below_size (by with_reducible exact HB.out)):w.heap.size ≤ gb107));have n3_:=Aside0.mk ((by rw [hg];exact (below_size (by with_reducible exact HB.out)):w.heap.size ≤ gb107));clear HB;have HB:=n0_;have BK107:=n1_;have GW107:=n2_;have GE107:=n3_;clear n0_ n1_ n2_ n3_;clear hb hbox hg;have hcz7_0:w6.cell? ⟨gb107,0,none⟩ = some (.int .i64 a0_0):=(blk_cell BK107.out 0).trans rfl;have hcz7_1:w6.cell? ⟨gb107,1,none⟩ = some (.int .i64 a0_1):=(blk_cell BK107.out 1).trans rfl;have hcz7_2:w6.cell? ⟨gb107,2,none⟩ = some (.slice A0_2 l0_2.length c0_2):=(blk_cell BK107.out 2).trans rfl;have hfz7_0:=blk_frozen BK107.out 0;have hfz7_1:=blk_frozen BK107.out 1;have hfz7_2:=blk_frozen BK107.out 2))
  (try simp only [Act.put,List.setIfInBounds_toArray,List.set_cons_zero,List.set_cons_succ])
  go_cut [11] (fun v11 wc=>∃ (kq:Nat) (x11_4:Bool),v11 = .bool x11_4 ∧ Aside0 (flow_elem.j0 kq x11_4 a0_0 a0_1 l0_2 = some r) ∧ Aside0 (kq ≤ k) ∧ Aside0 (wc.heap[gb107]? = some (.cells #[.int .i64 a0_0,.int .i64 a0_1,(.slice A0_2 l0_2.length c0_2)] 26 (0,0))) ∧ Aside0 (Below w.heap.size w wc))
  case first =>
   have H:=HC5.out
   clear HC5
   by_cases c8:a0_1 = 0
   ·rw [if_pos c8] at H
    have c8b0:(a0_1 == 0) = true:=beq_iff_eq.mpr c8
    have c8b1:(a0_1 != 0) = false:=bne_eq_false_iff_eq.mpr c8
    clear c8
    (skip)
    replace H:=Option.bind_eq_some_iff.mp H
    obtain ⟨t108,A90,H⟩:=H
    replace H:(flow_elem.j0 k (!t108) a0_0 a0_1 l0_2) = some r:=H
    have A9:=Aside0.mk A90
    clear A90
    have H':=Aside0.mk H
    clear H
    have hcz10_0:w6.cell? ⟨gb107,0,none⟩ = some (.int .i64 a0_0):=(blk_cell BK107.out 0).trans rfl
    have hcz10_1:w6.cell? ⟨gb107,1,none⟩ = some (.int .i64 a0_1):=(blk_cell BK107.out 1).trans rfl
    have hcz10_2:w6.cell? ⟨gb107,2,none⟩ = some (.slice A0_2 l0_2.length c0_2):=(blk_cell BK107.out 2).trans rfl
    have hfz10_0:=blk_frozen BK107.out 0
    have hfz10_1:=blk_frozen BK107.out 1
    have hfz10_2:=blk_frozen BK107.out 2
    go_wp2_with ((go_at_call 130;(with_reducible refine (flow_Char.calls a0_0 t108 _ A9.out).mono ?_);rintro e w' ⟨rfl,⟨nd,rfl⟩⟩))
    go_meet
    case rel=>exact ⟨_,(!t108),(by rfl),H',⟨by omega⟩,⟨by (with_reducible repeat (refine blk_drewN ?_ _));exact BK107.out⟩,⟨by repeat ((with_reducible first | exact HB.out | apply pw_below_drewN))⟩⟩
   ·rw [if_neg c8] at H
    have c8b0:(a0_1 == 0) = false:=beq_eq_false_iff_ne.mpr c8
    have c8b1:(a0_1 != 0) = true:=bne_iff_ne.mpr c8
    (skip)
    have H':=Aside0.mk H
    clear H
    have hcz11_0:w6.cell? ⟨gb107,0,none⟩ = some (.int .i64 a0_0):=(blk_cell BK107.out 0).trans rfl
    have hcz11_1:w6.cell? ⟨gb107,1,none⟩ = some (.int .i64 a0_1):=(blk_cell BK107.out 1).trans rfl
    have hcz11_2:w6.cell? ⟨gb107,2,none⟩ = some (.slice A0_2 l0_2.length c0_2):=(blk_cell BK107.out 2).trans rfl
    have hfz11_0:=blk_frozen BK107.out 0
    have hfz11_1:=blk_frozen BK107.out 1
    have hfz11_2:=blk_frozen BK107.out 2
    go_wp2
    go_meet
    case rel=>exact ⟨_,(false),(by rfl),H',⟨by omega⟩,⟨by exact BK107.out⟩,⟨HB.out⟩⟩
  case rest =>
   clear HC5
   try clear c2b0
   try clear c2b1
   try clear c2b2
   try clear hcz7_0
   try clear hcz7_1
   try clear hcz7_2
   try clear hfz7_0
   try clear hfz7_1
   try clear hfz7_2
   obtain ⟨kq,x11_4,rfl,HA,HJ4,BK107,HB⟩:=hcut
   cases kq with
   | zero=>exact absurd HA.out (by simp [flow_elem.j0])
   | succ kj4 =>
    have H:=HA.out
    clear HA
    simp only [flow_elem.j0] at H
    by_cases c12:x11_4 = true
    ·subst c12
     have H1:(some 2) = some r:=by rw [if_pos rfl] at H;exact H
     clear H
     have H:=H1
     clear H1
     obtain rfl:=Option.some.inj H
     go_wp2
     go_ret
     exact ⟨by rfl,HB.out⟩
    ·replace c12:=Bool.eq_false_iff.mpr c12
     subst c12
     have H1:(if a0_1 = 0 then ((attr_Check.f kj4 l0_2).bind fun t109=>(some t109)) else (if a0_1 < 1 then (some 2) else (if a0_1 > 1073741824 then (some 2) else ((attr_Check.f kj4 l0_2).bind fun t110=>(some t110))))) = some r:=by rw [if_neg (show ¬ (false = true) by decide)] at H;exact H
     clear H
     have H:=H1
     clear H1
     by_cases c13:a0_1 = 0
     ·rw [if_pos c13] at H
      have c13b0:(a0_1 == 0) = true:=beq_iff_eq.mpr c13
      have c13b1:(a0_1 != 0) = false:=bne_eq_false_iff_eq.mpr c13
      clear c13
      replace H:=Option.bind_eq_some_iff.mp H
      obtain ⟨t109,A140,H⟩:=H
      replace H:(some t109) = some r:=H
      have A14:=Aside0.mk A140
      clear A140
      obtain rfl:=Option.some.inj H
      have hcz15_0:wc.cell? ⟨gb107,0,none⟩ = some (.int .i64 a0_0):=(blk_cell BK107.out 0).trans rfl
      have hcz15_1:wc.cell? ⟨gb107,1,none⟩ = some (.int .i64 a0_1):=(blk_cell BK107.out 1).trans rfl
      have hcz15_2:wc.cell? ⟨gb107,2,none⟩ = some (.slice A0_2 l0_2.length c0_2):=(blk_cell BK107.out 2).trans rfl
      have hfz15_0:=blk_frozen BK107.out 0
      have hfz15_1:=blk_frozen BK107.out 1
      have hfz15_2:=blk_frozen BK107.out 2
      go_wp2_with (((with_reducible refine gate_callee (f:=131) rfl ?_);refine goesL_ (some 36) rfl rfl Try.func131 (by kernel_rfl) rfl #[.slice A0_2 l0_2.length c0_2] rfl (by (try simp only [List.map_toArray,List.map_cons,List.map_nil]);rfl) ?_;(with_reducible refine (attr_Check.calls kj4 _ _ l0_2 t109 _ ?side1 ?side2 A14.out).mono ?_);(case side1=>repeat (exact (Kd.C_below HR0_2.out HB.out)));(case side2=>exact HC0_2.out);rintro e w16 ⟨rfl,hb⟩;refine ⟨_,rfl,?_⟩;have n0_:=Aside0.mk (blk_below BK107.out hb);have n1_:=Aside0.mk (below_step HB.out hb);clear BK107;clear HB;have BK107:=n0_;have HB:=n1_;clear n0_ n1_;(try clear hb);(try clear hb2);(try clear hk);(try clear hi)))
      go_ret
      exact ⟨by rfl,HB.out⟩
     ·rw [if_neg c13] at H
      have c13b0:(a0_1 == 0) = false:=beq_eq_false_iff_ne.mpr c13
      have c13b1:(a0_1 != 0) = true:=bne_iff_ne.mpr c13
      by_cases c17:a0_1 < 1
      ·rw [if_pos c17] at H
       have c17b0:decide (a0_1 < 1) = true:=decide_eq_true c17
       clear c17
       obtain rfl:=Option.some.inj H
       have hcz18_0:wc.cell? ⟨gb107,0,none⟩ = some (.int .i64 a0_0):=(blk_cell BK107.out 0).trans rfl
       have hcz18_1:wc.cell? ⟨gb107,1,none⟩ = some (.int .i64 a0_1):=(blk_cell BK107.out 1).trans rfl
       have hcz18_2:wc.cell? ⟨gb107,2,none⟩ = some (.slice A0_2 l0_2.length c0_2):=(blk_cell BK107.out 2).trans rfl
       have hfz18_0:=blk_frozen BK107.out 0
       have hfz18_1:=blk_frozen BK107.out 1
       have hfz18_2:=blk_frozen BK107.out 2
       go_wp2
       go_ret
       exact ⟨by rfl,HB.out⟩
      ·rw [if_neg c17] at H
       have c17b0:decide (a0_1 < 1) = false:=decide_eq_false c17
       clear c17
       by_cases c19:a0_1 > 1073741824
       ·rw [if_pos c19] at H
        have c19b0:decide (1073741824 < a0_1) = true:=decide_eq_true c19
        clear c19
        obtain rfl:=Option.some.inj H
        have hcz20_0:wc.cell? ⟨gb107,0,none⟩ = some (.int .i64 a0_0):=(blk_cell BK107.out 0).trans rfl
        have hcz20_1:wc.cell? ⟨gb107,1,none⟩ = some (.int .i64 a0_1):=(blk_cell BK107.out 1).trans rfl
        have hcz20_2:wc.cell? ⟨gb107,2,none⟩ = some (.slice A0_2 l0_2.length c0_2):=(blk_cell BK107.out 2).trans rfl
        have hfz20_0:=blk_frozen BK107.out 0
        have hfz20_1:=blk_frozen BK107.out 1
        have hfz20_2:=blk_frozen BK107.out 2
        go_wp2
        go_ret
        exact ⟨by rfl,HB.out⟩
       ·rw [if_neg c19] at H
        have c19b0:decide (1073741824 < a0_1) = false:=decide_eq_false c19
        clear c19
        replace H:=Option.bind_eq_some_iff.mp H
        obtain ⟨t110,A210,H⟩:=H
        replace H:(some t110) = some r:=H
        have A21:=Aside0.mk A210
        clear A210
        obtain rfl:=Option.some.inj H
        have hcz22_0:wc.cell? ⟨gb107,0,none⟩ = some (.int .i64 a0_0):=(blk_cell BK107.out 0).trans rfl
        have hcz22_1:wc.cell? ⟨gb107,1,none⟩ = some (.int .i64 a0_1):=(blk_cell BK107.out 1).trans rfl
        have hcz22_2:wc.cell? ⟨gb107,2,none⟩ = some (.slice A0_2 l0_2.length c0_2):=(blk_cell BK107.out 2).trans rfl
        have hfz22_0:=blk_frozen BK107.out 0
        have hfz22_1:=blk_frozen BK107.out 1
        have hfz22_2:=blk_frozen BK107.out 2
        go_wp2_with (((with_reducible refine gate_callee (f:=131) rfl ?_);refine goesL_ (some 36) rfl rfl Try.func131 (by kernel_rfl) rfl #[.slice A0_2 l0_2.length c0_2] rfl (by (try simp only [List.map_toArray,List.map_cons,List.map_nil]);rfl) ?_;(with_reducible refine (attr_Check.calls kj4 _ _ l0_2 t110 _ ?side1 ?side2 A21.out).mono ?_);(case side1=>repeat (exact (Kd.C_below HR0_2.out HB.out)));(case side2=>exact HC0_2.out);rintro e w23 ⟨rfl,hb⟩;refine ⟨_,rfl,?_⟩;have n0_:=Aside0.mk (blk_below BK107.out hb);have n1_:=Aside0.mk (below_step HB.out hb);clear BK107;clear HB;have BK107:=n0_;have HB:=n1_;clear n0_ n1_;(try clear hb);(try clear hb2);(try clear hk);(try clear hi)))
        go_ret
        exact ⟨by rfl,HB.out⟩
def flow_CheckPart.l0:Nat → List (S26) → Int → Int → Option (Int)
 | 0,_,_,_=>none
 | k + 1,x6,x7,x8=>if x8 < x7 then (if 0 ≤ x8 then (if x8 < (x6.length:Int) then ((flow_elem.f k ((rd_T26 x6 x8).f0) ((rd_T26 x6 x8).f1) ((rd_T26 x6 x8).f2)).bind fun t113=>(if t113 = 0 then (flow_CheckPart.l0 k x6 x7 (wrap64 (x8 + 1))) else (some t113))) else (none)) else (none)) else (some 0)
def flow_CheckPart.f (k:Nat) (l0:List (S26)):Option (Int):=flow_CheckPart.l0 k l0 (l0.length:Int) 0
set_option maxHeartbeats 8000000 in
set_option maxRecDepth 100000 in
theorem flow_CheckPart.calls (k:Nat) (A0:Option Addr) (c0:Nat) (l0:List (S26)) (r:Int) (w:World) (hr0:Kd.C k26 w A0 l0.length l0) (hc0:l0.length ≤ c0) (h:flow_CheckPart.f k l0 = some r) :
 Calls Try.prog 61 #[.slice A0 l0.length c0] w fun e w'=>e = .returned (.int .i64 r) ∧ Below w.heap.size w w':=by
 have hu26:=Try.underlying26
 have HR0:=Aside0.mk hr0
 have HC0:=Aside0.mk hc0
 clear hr0 hc0
 have HB:=Aside0.mk (Below.refl w.heap.size w)
 have H:(flow_CheckPart.l0 k l0 (l0.length:Int) 0) = some r:=h
 clear h
 have H':=Aside0.mk H
 clear H
 go_enter Try.func61,Try.ntmps61
 go_wp2
 go_loopg [8] k (fun kq v8 w'=>∃ (x8_1:Int),v8 = .int .i64 x8_1 ∧ Aside0 (flow_CheckPart.l0 kq l0 (l0.length:Int) x8_1 = some r) ∧ Aside0 (kq ≤ k) ∧ Aside0 (Below w.heap.size w w'))
 case atStart=>exact ⟨(0),(by rfl),H',⟨Nat.le_refl _⟩,⟨HB.out⟩⟩
 case round =>
  clear H'
  obtain ⟨x8_1,rfl,HA,HK1,HB⟩:=hrel
  cases gk with
  | zero=>exact absurd HA.out (by simp [flow_CheckPart.l0])
  | succ k1 =>
   have H:=HA.out
   clear HA
   simp only [flow_CheckPart.l0] at H
   by_cases c2:x8_1 < (l0.length:Int)
   ·rw [if_pos c2] at H
    have c2b0:decide (x8_1 < (l0.length:Int)) = true:=decide_eq_true c2
    clear c2
    by_cases c3:0 ≤ x8_1
    ·rw [if_pos c3] at H
     have c3b0:decide (0 ≤ x8_1) = true:=decide_eq_true c3
     clear c3
     by_cases c4:x8_1 < (l0.length:Int)
     ·rw [if_pos c4] at H
      have c4b0:decide (x8_1 < (l0.length:Int)) = true:=decide_eq_true c4
      clear c4
      replace H:=Option.bind_eq_some_iff.mp H
      obtain ⟨t113,A50,H⟩:=H
      replace H:(if t113 = 0 then (flow_CheckPart.l0 k1 l0 (l0.length:Int) (wrap64 (x8_1 + 1))) else (some t113)) = some r:=H
      have A5:=Aside0.mk A50
      clear A50
      by_cases c6:t113 = 0
      ·rw [if_pos c6] at H
       have c6b0:(t113 == 0) = true:=beq_iff_eq.mpr c6
       have c6b1:(t113 != 0) = false:=bne_eq_false_iff_eq.mpr c6
       clear c6
       have H':=Aside0.mk H
       clear H
       have p111:0 ≤ (x8_1:Int):=of_decide_eq_true (by assumption)
       have q111:x8_1 < (l0.length:Int):=of_decide_eq_true (by assumption)
       obtain ⟨ad111,A111_2,c111_2,e111,hx111_0,hx111_1,hx111_2,hl111_2,hi111_2⟩:=at_T26 HR0.out x8_1 p111 q111
       cases e111
       replace hx111_0:=(HB.out.cell (World.block_lt_of_cell? w _ hx111_0)).trans hx111_0
       replace hx111_1:=(HB.out.cell (World.block_lt_of_cell? w _ hx111_1)).trans hx111_1
       replace hx111_2:=(HB.out.cell (World.block_lt_of_cell? w _ hx111_2)).trans hx111_2
       have HR111_2:=Aside0.mk hi111_2
       have HC111_2:=Aside0.mk hl111_2
       clear hi111_2 hl111_2
       replace p111:=eq_true p111
       replace q111:=eq_true q111
       go_wp2_with (first | ((with_reducible refine gate_dst (N:=4) rfl ?_);refine box_event ?hg (N:=4) ?hd (cs:=#[.int .i64 0,.int .i64 0,.slice none 0 0]) (t:=26) ?hr ?_;(case hd=>rfl);(case hg=>rfl);(case hr=>(go_simp;done));intro gb112 hg w7 hbox hb;have n0_:=Aside0.mk (below_step (by with_reducible exact HB.out) hb);have n1_:=Aside0.mk hbox;have n2_:=Aside0.mk ((by rw [hg];exact (below_size (by with_reducible exact HB.out)):w.heap.size ≤ gb112));have n3_:=Aside0.mk ((by rw [hg];exact (below_size (by with_reducible exact HB.out)):w.heap.size ≤ gb112));clear HB;have HB:=n0_;have BK112:=n1_;have GW112:=n2_;have GE112:=n3_;clear n0_ n1_ n2_ n3_;clear hb hbox hg;have hcz8_0:w7.cell? ⟨gb112,0,none⟩ = some (.int .i64 0):=(blk_cell BK112.out 0).trans rfl;have hcz8_1:w7.cell? ⟨gb112,1,none⟩ = some (.int .i64 0):=(blk_cell BK112.out 1).trans rfl;have hcz8_2:w7.cell? ⟨gb112,2,none⟩ = some (.slice none 0 0):=(blk_cell BK112.out 2).trans rfl;have hfz8_0:=blk_frozen BK112.out 0;have hfz8_1:=blk_frozen BK112.out 1;have hfz8_2:=blk_frozen BK112.out 2) | ((with_reducible refine gate_callee (f:=93) rfl ?_);refine goesL_ (some 13) rfl rfl Try.func93 (by kernel_rfl) rfl #[.agg #[.int .i64 ((rd_T26 l0 x8_1).f0),.int .i64 ((rd_T26 l0 x8_1).f1),.slice A111_2 ((rd_T26 l0 x8_1).f2).length c111_2]] rfl (by (try simp only [List.map_toArray,List.map_cons,List.map_nil]);rfl) ?_;(with_reducible refine (flow_elem.calls k1 ((rd_T26 l0 x8_1).f0) ((rd_T26 l0 x8_1).f1) _ _ ((rd_T26 l0 x8_1).f2) t113 _ ?side1 ?side2 A5.out).mono ?_);(case side1=>exact Kd.C_below HR111_2.out (by repeat ((with_reducible first | exact HB.out | refine below_set ?_ GE112.out))));(case side2=>exact HC111_2.out);rintro e w9 ⟨rfl,hb⟩;refine ⟨_,rfl,?_⟩;have n0_:=Aside0.mk (blk_below (g:=gb112) (o:=.cells #[.int .i64 ((rd_T26 l0 x8_1).f0),.int .i64 ((rd_T26 l0 x8_1).f1),.slice A111_2 ((rd_T26 l0 x8_1).f2).length c111_2] 26 (0,0)) (by (with_reducible repeat (first | refine blk_drewN ?_ _ | refine blk_drew ?_ | refine blk_alloc ?_ _));refine blk_put (cs:=#[.int .i64 ((rd_T26 l0 x8_1).f0),.int .i64 ((rd_T26 l0 x8_1).f1),.slice none 0 0]) ?_ 2 _ rfl;(with_reducible repeat (first | refine blk_drewN ?_ _ | refine blk_drew ?_ | refine blk_alloc ?_ _));refine blk_put (cs:=#[.int .i64 ((rd_T26 l0 x8_1).f0),.int .i64 0,.slice none 0 0]) ?_ 1 _ rfl;(with_reducible repeat (first | refine blk_drewN ?_ _ | refine blk_drew ?_ | refine blk_alloc ?_ _));refine blk_put (cs:=#[.int .i64 0,.int .i64 0,.slice none 0 0]) ?_ 0 _ rfl;exact BK112.out) hb);have n1_:=Aside0.mk (below_step (by repeat ((with_reducible first | exact HB.out | refine below_set ?_ GE112.out))) hb);clear BK112;clear HB;have BK112:=n0_;have HB:=n1_;clear n0_ n1_;(try clear hb);(try clear hb2);(try clear hk);(try clear hi)))
       go_roundg k1
       case measure=>have:=HK1.out;omega
       case rel=>exact ⟨(wrap64 (x8_1 + 1)),(by rfl),H',⟨by have:=HK1.out;omega⟩,⟨HB.out⟩⟩
      ·rw [if_neg c6] at H
       have c6b0:(t113 == 0) = false:=beq_eq_false_iff_ne.mpr c6
       have c6b1:(t113 != 0) = true:=bne_iff_ne.mpr c6
       obtain rfl:=Option.some.inj H
       have p111:0 ≤ (x8_1:Int):=of_decide_eq_true (by assumption)
       have q111:x8_1 < (l0.length:Int):=of_decide_eq_true (by assumption)
       obtain ⟨ad111,A111_2,c111_2,e111,hx111_0,hx111_1,hx111_2,hl111_2,hi111_2⟩:=at_T26 HR0.out x8_1 p111 q111
       cases e111
       replace hx111_0:=(HB.out.cell (World.block_lt_of_cell? w _ hx111_0)).trans hx111_0
       replace hx111_1:=(HB.out.cell (World.block_lt_of_cell? w _ hx111_1)).trans hx111_1
       replace hx111_2:=(HB.out.cell (World.block_lt_of_cell? w _ hx111_2)).trans hx111_2
       have HR111_2:=Aside0.mk hi111_2
       have HC111_2:=Aside0.mk hl111_2
       clear hi111_2 hl111_2
       replace p111:=eq_true p111
       replace q111:=eq_true q111
       go_wp2_with (first | ((with_reducible refine gate_dst (N:=4) rfl ?_);refine box_event ?hg (N:=4) ?hd (cs:=#[.int .i64 0,.int .i64 0,.slice none 0 0]) (t:=26) ?hr ?_;(case hd=>rfl);(case hg=>rfl);(case hr=>(go_simp;done));intro gb112 hg w10 hbox hb;have n0_:=Aside0.mk (below_step (by with_reducible exact HB.out) hb);have n1_:=Aside0.mk hbox;have n2_:=Aside0.mk ((by rw [hg];exact (below_size (by with_reducible exact HB.out)):w.heap.size ≤ gb112));have n3_:=Aside0.mk ((by rw [hg];exact (below_size (by with_reducible exact HB.out)):w.heap.size ≤ gb112));clear HB;have HB:=n0_;have BK112:=n1_;have GW112:=n2_;have GE112:=n3_;clear n0_ n1_ n2_ n3_;clear hb hbox hg;have hcz11_0:w10.cell? ⟨gb112,0,none⟩ = some (.int .i64 0):=(blk_cell BK112.out 0).trans rfl;have hcz11_1:w10.cell? ⟨gb112,1,none⟩ = some (.int .i64 0):=(blk_cell BK112.out 1).trans rfl;have hcz11_2:w10.cell? ⟨gb112,2,none⟩ = some (.slice none 0 0):=(blk_cell BK112.out 2).trans rfl;have hfz11_0:=blk_frozen BK112.out 0;have hfz11_1:=blk_frozen BK112.out 1;have hfz11_2:=blk_frozen BK112.out 2) | ((with_reducible refine gate_callee (f:=93) rfl ?_);refine goesL_ (some 13) rfl rfl Try.func93 (by kernel_rfl) rfl #[.agg #[.int .i64 ((rd_T26 l0 x8_1).f0),.int .i64 ((rd_T26 l0 x8_1).f1),.slice A111_2 ((rd_T26 l0 x8_1).f2).length c111_2]] rfl (by (try simp only [List.map_toArray,List.map_cons,List.map_nil]);rfl) ?_;(with_reducible refine (flow_elem.calls k1 ((rd_T26 l0 x8_1).f0) ((rd_T26 l0 x8_1).f1) _ _ ((rd_T26 l0 x8_1).f2) t113 _ ?side1 ?side2 A5.out).mono ?_);(case side1=>exact Kd.C_below HR111_2.out (by repeat ((with_reducible first | exact HB.out | refine below_set ?_ GE112.out))));(case side2=>exact HC111_2.out);rintro e w12 ⟨rfl,hb⟩;refine ⟨_,rfl,?_⟩;have n0_:=Aside0.mk (blk_below (g:=gb112) (o:=.cells #[.int .i64 ((rd_T26 l0 x8_1).f0),.int .i64 ((rd_T26 l0 x8_1).f1),.slice A111_2 ((rd_T26 l0 x8_1).f2).length c111_2] 26 (0,0)) (by (with_reducible repeat (first | refine blk_drewN ?_ _ | refine blk_drew ?_ | refine blk_alloc ?_ _));refine blk_put (cs:=#[.int .i64 ((rd_T26 l0 x8_1).f0),.int .i64 ((rd_T26 l0 x8_1).f1),.slice none 0 0]) ?_ 2 _ rfl;(with_reducible repeat (first | refine blk_drewN ?_ _ | refine blk_drew ?_ | refine blk_alloc ?_ _));refine blk_put (cs:=#[.int .i64 ((rd_T26 l0 x8_1).f0),.int .i64 0,.slice none 0 0]) ?_ 1 _ rfl;(with_reducible repeat (first | refine blk_drewN ?_ _ | refine blk_drew ?_ | refine blk_alloc ?_ _));refine blk_put (cs:=#[.int .i64 0,.int .i64 0,.slice none 0 0]) ?_ 0 _ rfl;exact BK112.out) hb);have n1_:=Aside0.mk (below_step (by repeat ((with_reducible first | exact HB.out | refine below_set ?_ GE112.out))) hb);clear BK112;clear HB;have BK112:=n0_;have HB:=n1_;clear n0_ n1_;(try clear hb);(try clear hb2);(try clear hk);(try clear hi)))
       go_ret
       exact ⟨by rfl,HB.out⟩
     ·rw [if_neg c4] at H
      exact absurd H (by simp)
    ·rw [if_neg c3] at H
     exact absurd H (by simp)
   ·rw [if_neg c2] at H
    have c2b0:decide (x8_1 < (l0.length:Int)) = false:=decide_eq_false c2
    clear c2
    obtain rfl:=Option.some.inj H
    go_wp2
    go_ret
    exact ⟨by rfl,HB.out⟩
def delta_size.f (a0_0:Int) (a0_1:Int) (l0_2:List (S91)) (l0_3:List (S26)):Option (Int):=if a0_0 = 1 then (some (l0_3.length:Int)) else (some a0_1)
set_option maxHeartbeats 8000000 in
set_option maxRecDepth 100000 in
theorem delta_size.calls (a0_0:Int) (a0_1:Int) (A0_2:Option Addr) (c0_2:Nat) (l0_2:List (S91)) (A0_3:Option Addr) (c0_3:Nat) (l0_3:List (S26)) (r:Int) (w:World) (hr0_2:Kd.C k91 w A0_2 l0_2.length l0_2) (hc0_2:l0_2.length ≤ c0_2) (hr0_3:Kd.C k26 w A0_3 l0_3.length l0_3) (hc0_3:l0_3.length ≤ c0_3) (h:delta_size.f a0_0 a0_1 l0_2 l0_3 = some r) :
 Calls Try.prog 68 #[.agg #[.int .i64 a0_0,.int .i64 a0_1,.slice A0_2 l0_2.length c0_2,.slice A0_3 l0_3.length c0_3]] w fun e w'=>e = .returned (.int .i64 r) ∧ Below w.heap.size w w':=by
 have hu95:=Try.underlying95
 have HR0_2:=Aside0.mk hr0_2
 have HC0_2:=Aside0.mk hc0_2
 clear hr0_2 hc0_2
 have HR0_3:=Aside0.mk hr0_3
 have HC0_3:=Aside0.mk hc0_3
 clear hr0_3 hc0_3
 have HB:=Aside0.mk (Below.refl w.heap.size w)
 have H:(if a0_0 = 1 then (some (l0_3.length:Int)) else (some a0_1)) = some r:=h
 clear h
 by_cases c2:a0_0 = 1
 ·rw [if_pos c2] at H
  have c2b0:(a0_0 == 1) = true:=beq_iff_eq.mpr c2
  have c2b1:(a0_0 != 1) = false:=bne_eq_false_iff_eq.mpr c2
  clear c2
  obtain rfl:=Option.some.inj H
  go_enter Try.func68,Try.ntmps68
  go_wp2_with (((with_reducible refine gate_dst (N:=1) rfl ?_);refine box_event ?hg (N:=1) ?hd (cs:=#[.int .i64 a0_0,.int .i64 a0_1,.slice A0_2 l0_2.length c0_2,.slice A0_3 l0_3.length c0_3]) (t:=95) ?hr ?_;(case hd=>rfl);(case hg=>rfl);(case hr=>(go_simp;done));intro gb150 hg w3 hbox hb;have n0_:=Aside0.mk (below_step (by with_reducible exact HB.out) hb);have n1_:=Aside0.mk hbox;have n2_:=Aside0.mk ((by rw [hg];exact (below_size (by with_reducible exact HB.out)):w.heap.size ≤ gb150));have n3_:=Aside0.mk ((by rw [hg];exact (below_size (by with_reducible exact HB.out)):w.heap.size ≤ gb150));clear HB;have HB:=n0_;have BK150:=n1_;have GW150:=n2_;have GE150:=n3_;clear n0_ n1_ n2_ n3_;clear hb hbox hg;have hcz4_0:w3.cell? ⟨gb150,0,none⟩ = some (.int .i64 a0_0):=(blk_cell BK150.out 0).trans rfl;have hcz4_1:w3.cell? ⟨gb150,1,none⟩ = some (.int .i64 a0_1):=(blk_cell BK150.out 1).trans rfl;have hcz4_2:w3.cell? ⟨gb150,2,none⟩ = some (.slice A0_2 l0_2.length c0_2):=(blk_cell BK150.out 2).trans rfl;have hcz4_3:w3.cell? ⟨gb150,3,none⟩ = some (.slice A0_3 l0_3.length c0_3):=(blk_cell BK150.out 3).trans rfl;have hfz4_0:=blk_frozen BK150.out 0;have hfz4_1:=blk_frozen BK150.out 1;have hfz4_2:=blk_frozen BK150.out 2;have hfz4_3:=blk_frozen BK150.out 3))
  go_ret
  exact ⟨by rfl,HB.out⟩
 ·rw [if_neg c2] at H
  have c2b0:(a0_0 == 1) = false:=beq_eq_false_iff_ne.mpr c2
  have c2b1:(a0_0 != 1) = true:=bne_iff_ne.mpr c2
  obtain rfl:=Option.some.inj H
  go_enter Try.func68,Try.ntmps68
  go_wp2_with (((with_reducible refine gate_dst (N:=1) rfl ?_);refine box_event ?hg (N:=1) ?hd (cs:=#[.int .i64 a0_0,.int .i64 a0_1,.slice A0_2 l0_2.length c0_2,.slice A0_3 l0_3.length c0_3]) (t:=95) ?hr ?_;(case hd=>rfl);(case hg=>rfl);(case hr=>(go_simp;done));intro gb150 hg w5 hbox hb;have n0_:=Aside0.mk (below_step (by with_reducible exact HB.out) hb);have n1_:=Aside0.mk hbox;have n2_:=Aside0.mk ((by rw [hg];exact (below_size (by with_reducible exact HB.out)):w.heap.size ≤ gb150));have n3_:=Aside0.mk ((by rw [hg];exact (below_size (by with_reducible exact HB.out)):w.heap.size ≤ gb150));clear HB;have HB:=n0_;have BK150:=n1_;have GW150:=n2_;have GE150:=n3_;clear n0_ n1_ n2_ n3_;clear hb hbox hg;have hcz6_0:w5.cell? ⟨gb150,0,none⟩ = some (.int .i64 a0_0):=(blk_cell BK150.out 0).trans rfl;have hcz6_1:w5.cell? ⟨gb150,1,none⟩ = some (.int .i64 a0_1):=(blk_cell BK150.out 1).trans rfl;have hcz6_2:w5.cell? ⟨gb150,2,none⟩ = some (.slice A0_2 l0_2.length c0_2):=(blk_cell BK150.out 2).trans rfl;have hcz6_3:w5.cell? ⟨gb150,3,none⟩ = some (.slice A0_3 l0_3.length c0_3):=(blk_cell BK150.out 3).trans rfl;have hfz6_0:=blk_frozen BK150.out 0;have hfz6_1:=blk_frozen BK150.out 1;have hfz6_2:=blk_frozen BK150.out 2;have hfz6_3:=blk_frozen BK150.out 3))
  go_ret
  exact ⟨by rfl,HB.out⟩
def attr_CheckChange.f (k:Nat) (l0:List (S91)):Option (Int):=(attr_check.f k l0 true).bind fun t151=>(some t151)
set_option maxHeartbeats 8000000 in
set_option maxRecDepth 100000 in
theorem attr_CheckChange.calls (k:Nat) (A0:Option Addr) (c0:Nat) (l0:List (S91)) (r:Int) (w:World) (hr0:Kd.C k91 w A0 l0.length l0) (hc0:l0.length ≤ c0) (h:attr_CheckChange.f k l0 = some r) :
 Calls Try.prog 123 #[.slice A0 l0.length c0] w fun e w'=>e = .returned (.int .i64 r) ∧ Below w.heap.size w w':=by
 have HR0:=Aside0.mk hr0
 have HC0:=Aside0.mk hc0
 clear hr0 hc0
 have HB:=Aside0.mk (Below.refl w.heap.size w)
 have H:((attr_check.f k l0 true).bind fun t151=>(some t151)) = some r:=h
 clear h
 replace H:=Option.bind_eq_some_iff.mp H
 obtain ⟨t151,A20,H⟩:=H
 replace H:(some t151) = some r:=H
 have A2:=Aside0.mk A20
 clear A20
 obtain rfl:=Option.some.inj H
 go_enter Try.func123,Try.ntmps123
 go_wp2_with (((with_reducible refine gate_callee (f:=157) rfl ?_);refine goesL_ (some 4) rfl rfl Try.func157 (by kernel_rfl) rfl #[.slice A0 l0.length c0,.bool true] rfl (by (try simp only [List.map_toArray,List.map_cons,List.map_nil]);rfl) ?_;(with_reducible refine (attr_check.calls k _ _ l0 true t151 _ ?side1 ?side2 A2.out).mono ?_);(case side1=>repeat (exact HR0.out));(case side2=>exact HC0.out);rintro e w3 ⟨rfl,hb⟩;refine ⟨_,rfl,?_⟩;replace HB:=Aside0.mk (below_step (by with_reducible exact HB.out) hb);(try clear hb);(try clear hb2);(try clear hk);(try clear hi)))
 go_ret
 exact ⟨by rfl,HB.out⟩
end Go.Proofs.Ytlcodfjlbhjkbaa.PDelta
end
section
namespace Go.Proofs.Ytlcodfjlbhjkbaa.PDelta
open Go.RowKit Go.Proofs.YtlcodfjlbhjkbaaW.PrintWords Go.Proofs.YtlcodfjlbhjkbaaW.PrintLast Go.Proofs.YtlcodfjlbhjkbaaW.PrintMore
attribute [local go_sem] max2_int min2_int max_two min_two max_three min_three max_four min_four
attribute [local go_sem high] Go.Proofs.Ytlcodfjlbhjkbaa.Ord.leq_str Go.Proofs.Ytlcodfjlbhjkbaa.Ord.gtr_str Go.Proofs.Ytlcodfjlbhjkbaa.Ord.geq_str
attribute [local go_sem high] eqA91
mutual
def delta_step.j0:Nat → Int → Bool → Int → Int → List (S91) → List (S26) → Option (Int)
 | 0,_,_,_,_,_,_=>none
 | k + 1,x4,x5,x153000,x153001,x153002,x153003=>if x5 = true then (if (x153003.length:Int) > 0 then (delta_step.j1 k true x153000 x153001 x153002 x153003) else (if x153000 = 2 then (delta_step.j1 k (decide ((x153002.length:Int) > 0)) x153000 x153001 x153002 x153003) else (delta_step.j1 k false x153000 x153001 x153002 x153003))) else (if x4 = 1 then (if x153001 = 0 then (delta_step.j2 k (decide ((x153002.length:Int) > 0)) x153000 x153001 x153002 x153003) else (delta_step.j2 k true x153000 x153001 x153002 x153003)) else (some 8))
def delta_step.j1:Nat → Bool → Int → Int → List (S91) → List (S26) → Option (Int)
 | 0,_,_,_,_,_=>none
 | k + 1,x22,x153000,x153001,x153002,x153003=>if x22 = true then (some 4) else (if x153001 < 1 then (some 2) else (if x153001 > 2147483647 then (some 2) else ((attr_CheckChange.f k x153002).bind fun t153=>(some t153))))
def delta_step.j2:Nat → Bool → Int → Int → List (S91) → List (S26) → Option (Int)
 | 0,_,_,_,_,_=>none
 | k + 1,x44,x153000,x153001,x153002,x153003=>if x44 = true then (some 4) else (if (x153003.length:Int) = 0 then (some 11) else ((flow_CheckPart.f k x153003).bind fun t154=>(some t154)))
end
def delta_step.f (k:Nat) (a0_0:Int) (a0_1:Int) (l0_2:List (S91)) (l0_3:List (S26)):Option (Int):=if a0_0 = 0 then (delta_step.j0 k a0_0 (a0_0 == 0) a0_0 a0_1 l0_2 l0_3) else (delta_step.j0 k a0_0 (a0_0 == 2) a0_0 a0_1 l0_2 l0_3)
set_option maxHeartbeats 8000000 in
set_option maxRecDepth 100000 in
theorem delta_step.calls (k:Nat) (a0_0:Int) (a0_1:Int) (A0_2:Option Addr) (c0_2:Nat) (l0_2:List (S91)) (A0_3:Option Addr) (c0_3:Nat) (l0_3:List (S26)) (r:Int) (w:World) (hr0_2:Kd.C k91 w A0_2 l0_2.length l0_2) (hc0_2:l0_2.length ≤ c0_2) (hr0_3:Kd.C k26 w A0_3 l0_3.length l0_3) (hc0_3:l0_3.length ≤ c0_3) (h:delta_step.f k a0_0 a0_1 l0_2 l0_3 = some r) :
 Calls Try.prog 104 #[.agg #[.int .i64 a0_0,.int .i64 a0_1,.slice A0_2 l0_2.length c0_2,.slice A0_3 l0_3.length c0_3]] w fun e w'=>e = .returned (.int .i64 r) ∧ Below w.heap.size w w':=by
 have hu95:=Try.underlying95
 have HR0_2:=Aside0.mk hr0_2
 have HC0_2:=Aside0.mk hc0_2
 clear hr0_2 hc0_2
 have HR0_3:=Aside0.mk hr0_3
 have HC0_3:=Aside0.mk hc0_3
 clear hr0_3 hc0_3
 have HB:=Aside0.mk (Below.refl w.heap.size w)
 have H:(if a0_0 = 0 then (delta_step.j0 k a0_0 (a0_0 == 0) a0_0 a0_1 l0_2 l0_3) else (delta_step.j0 k a0_0 (a0_0 == 2) a0_0 a0_1 l0_2 l0_3)) = some r:=h
 clear h
 have HC2:=Aside0.mk H
 clear H
 go_enter Try.func104,Try.ntmps104
 go_upto_if 5 with (((with_reducible refine gate_dst (N:=1) rfl ?_);(try (refine gate_guard (by rfl) ?_;dsimp only));refine box_event ?hg (N:=1) ?hd (cs:=#[.int .i64 a0_0,.int .i64 a0_1,.slice A0_2 l0_2.length c0_2,.slice A0_3 l0_3.length c0_3]) (t:=95) ?hr ?_;(case hd=>rfl);(case hg=>rfl);(case hr=>(go_simp;done));intro gb152 hg w3 hbox hb;have n0_:=Aside0.mk (below_step (by with_reducible exact HB.out) hb);have n1_:=Aside0.mk hbox;have n2_:=Aside0.mk ((by rw [hg];exact (below_size (by with_reducible exact HB.out)):w.heap.size ≤ gb152));have n3_:=Aside0.mk ((by rw [hg];exact (below_size (by with_reducible exact HB.out)):w.heap.size ≤ gb152));clear HB;have HB:=n0_;have BK152:=n1_;have GW152:=n2_;have GE152:=n3_;clear n0_ n1_ n2_ n3_;clear hb hbox hg;have hcz4_0:w3.cell? ⟨gb152,0,none⟩ = some (.int .i64 a0_0):=(blk_cell BK152.out 0).trans rfl;have hcz4_1:w3.cell? ⟨gb152,1,none⟩ = some (.int .i64 a0_1):=(blk_cell BK152.out 1).trans rfl;have hcz4_2:w3.cell? ⟨gb152,2,none⟩ = some (.slice A0_2 l0_2.length c0_2):=(blk_cell BK152.out 2).trans rfl;have hcz4_3:w3.cell? ⟨gb152,3,none⟩ = some (.slice A0_3 l0_3.length c0_3):=(blk_cell BK152.out 3).trans rfl;have hfz4_0:=blk_frozen BK152.out 0;have hfz4_1:=blk_frozen BK152.out 1;have hfz4_2:=blk_frozen BK152.out 2;have hfz4_3:=blk_frozen BK152.out 3))
 (try simp only [Act.put,List.setIfInBounds_toArray,List.set_cons_zero,List.set_cons_succ])
 go_cut [5] (fun v5 wc=>∃ (kq:Nat) (x5_1:Bool),v5 = .bool x5_1 ∧ Aside0 (delta_step.j0 kq a0_0 x5_1 a0_0 a0_1 l0_2 l0_3 = some r) ∧ Aside0 (kq ≤ k) ∧ Aside0 (wc.heap[gb152]? = some (.cells #[.int .i64 a0_0,.int .i64 a0_1,(.slice A0_2 l0_2.length c0_2),(.slice A0_3 l0_3.length c0_3)] 95 (0,0))) ∧ Aside0 (Below w.heap.size w wc))
 case first =>
  have H:=HC2.out
  clear HC2
  by_cases c5:a0_0 = 0
  ·rw [if_pos c5] at H
   have c5b0:(a0_0 == 0) = true:=beq_iff_eq.mpr c5
   have c5b1:(a0_0 != 0) = false:=bne_eq_false_iff_eq.mpr c5
   clear c5
   (rw [c5b0])
   have H':=Aside0.mk H
   clear H
   go_wp2
   go_meet
   case rel=>exact ⟨_,((a0_0 == 0)),(by (simp [*];done)),H',⟨by omega⟩,⟨by exact BK152.out⟩,⟨HB.out⟩⟩
  ·rw [if_neg c5] at H
   have c5b0:(a0_0 == 0) = false:=beq_eq_false_iff_ne.mpr c5
   have c5b1:(a0_0 != 0) = true:=bne_iff_ne.mpr c5
   (rw [c5b0])
   have H':=Aside0.mk H
   clear H
   go_wp2
   go_meet
   case rel=>exact ⟨_,((a0_0 == 2)),(by rfl),H',⟨by omega⟩,⟨by exact BK152.out⟩,⟨HB.out⟩⟩
 case rest =>
  clear HC2
  try clear hcz4_0
  try clear hcz4_1
  try clear hcz4_2
  try clear hcz4_3
  try clear hfz4_0
  try clear hfz4_1
  try clear hfz4_2
  try clear hfz4_3
  obtain ⟨kq,x5_1,rfl,HA,HJ1,BK152,HB⟩:=hcut
  cases kq with
  | zero=>exact absurd HA.out (by simp [delta_step.j0])
  | succ kj1 =>
   have H:=HA.out
   clear HA
   simp only [delta_step.j0] at H
   by_cases c6:x5_1 = true
   ·subst c6
    have H1:(if (l0_3.length:Int) > 0 then (delta_step.j1 kj1 true a0_0 a0_1 l0_2 l0_3) else (if a0_0 = 2 then (delta_step.j1 kj1 (decide ((l0_2.length:Int) > 0)) a0_0 a0_1 l0_2 l0_3) else (delta_step.j1 kj1 false a0_0 a0_1 l0_2 l0_3))) = some r:=by rw [if_pos rfl] at H;exact H
    clear H
    have H:=H1
    clear H1
    have HC7:=Aside0.mk H
    clear H
    go_upto_region 4 with (fail)
    go_cut [22] (fun v22 wc=>∃ (kq:Nat) (x22_6:Bool),v22 = .bool x22_6 ∧ Aside0 (delta_step.j1 kq x22_6 a0_0 a0_1 l0_2 l0_3 = some r) ∧ Aside0 (kq ≤ kj1) ∧ Aside0 (wc.heap[gb152]? = some (.cells #[.int .i64 a0_0,.int .i64 a0_1,(.slice A0_2 l0_2.length c0_2),(.slice A0_3 l0_3.length c0_3)] 95 (0,0))) ∧ Aside0 (Below w.heap.size w wc))
    case first =>
     have H:=HC7.out
     clear HC7
     by_cases c8:(l0_3.length:Int) > 0
     ·rw [if_pos c8] at H
      have c8b0:decide (0 < (l0_3.length:Int)) = true:=decide_eq_true c8
      have c8b1:decide (0 < l0_3.length) = true:=decide_eq_true (by omega)
      clear c8
      (skip)
      have H':=Aside0.mk H
      clear H
      have hcz9_0:wc.cell? ⟨gb152,0,none⟩ = some (.int .i64 a0_0):=(blk_cell BK152.out 0).trans rfl
      have hcz9_1:wc.cell? ⟨gb152,1,none⟩ = some (.int .i64 a0_1):=(blk_cell BK152.out 1).trans rfl
      have hcz9_2:wc.cell? ⟨gb152,2,none⟩ = some (.slice A0_2 l0_2.length c0_2):=(blk_cell BK152.out 2).trans rfl
      have hcz9_3:wc.cell? ⟨gb152,3,none⟩ = some (.slice A0_3 l0_3.length c0_3):=(blk_cell BK152.out 3).trans rfl
      have hfz9_0:=blk_frozen BK152.out 0
      have hfz9_1:=blk_frozen BK152.out 1
      have hfz9_2:=blk_frozen BK152.out 2
      have hfz9_3:=blk_frozen BK152.out 3
      go_wp2
      go_meet
      case rel=>exact ⟨_,(true),(by rfl),H',⟨by have:=HJ1.out;omega⟩,⟨by exact BK152.out⟩,⟨HB.out⟩⟩
     ·rw [if_neg c8] at H
      have c8b0:decide (0 < (l0_3.length:Int)) = false:=decide_eq_false c8
      have c8b1:decide (0 < l0_3.length) = false:=decide_eq_false (by omega)
      clear c8
      (skip)
      by_cases c10:a0_0 = 2
      ·rw [if_pos c10] at H
       have c10b0:(a0_0 == 2) = true:=beq_iff_eq.mpr c10
       have c10b1:(a0_0 != 2) = false:=bne_eq_false_iff_eq.mpr c10
       clear c10
       have H':=Aside0.mk H
       clear H
       have hcz11_0:wc.cell? ⟨gb152,0,none⟩ = some (.int .i64 a0_0):=(blk_cell BK152.out 0).trans rfl
       have hcz11_1:wc.cell? ⟨gb152,1,none⟩ = some (.int .i64 a0_1):=(blk_cell BK152.out 1).trans rfl
       have hcz11_2:wc.cell? ⟨gb152,2,none⟩ = some (.slice A0_2 l0_2.length c0_2):=(blk_cell BK152.out 2).trans rfl
       have hcz11_3:wc.cell? ⟨gb152,3,none⟩ = some (.slice A0_3 l0_3.length c0_3):=(blk_cell BK152.out 3).trans rfl
       have hfz11_0:=blk_frozen BK152.out 0
       have hfz11_1:=blk_frozen BK152.out 1
       have hfz11_2:=blk_frozen BK152.out 2
       have hfz11_3:=blk_frozen BK152.out 3
       go_wp2
       go_meet
       case rel=>exact ⟨_,(decide ((l0_2.length:Int) > 0)),(by (simp;done)),H',⟨by have:=HJ1.out;omega⟩,⟨by exact BK152.out⟩,⟨HB.out⟩⟩
      ·rw [if_neg c10] at H
       have c10b0:(a0_0 == 2) = false:=beq_eq_false_iff_ne.mpr c10
       have c10b1:(a0_0 != 2) = true:=bne_iff_ne.mpr c10
       have H':=Aside0.mk H
       clear H
       have hcz12_0:wc.cell? ⟨gb152,0,none⟩ = some (.int .i64 a0_0):=(blk_cell BK152.out 0).trans rfl
       have hcz12_1:wc.cell? ⟨gb152,1,none⟩ = some (.int .i64 a0_1):=(blk_cell BK152.out 1).trans rfl
       have hcz12_2:wc.cell? ⟨gb152,2,none⟩ = some (.slice A0_2 l0_2.length c0_2):=(blk_cell BK152.out 2).trans rfl
       have hcz12_3:wc.cell? ⟨gb152,3,none⟩ = some (.slice A0_3 l0_3.length c0_3):=(blk_cell BK152.out 3).trans rfl
       have hfz12_0:=blk_frozen BK152.out 0
       have hfz12_1:=blk_frozen BK152.out 1
       have hfz12_2:=blk_frozen BK152.out 2
       have hfz12_3:=blk_frozen BK152.out 3
       go_wp2
       go_meet
       case rel=>exact ⟨_,(false),(by rfl),H',⟨by have:=HJ1.out;omega⟩,⟨by exact BK152.out⟩,⟨HB.out⟩⟩
    case rest =>
     clear HC7
     obtain ⟨kq,x22_6,rfl,HA,HJ6,BK152,HB⟩:=hcut
     cases kq with
     | zero=>exact absurd HA.out (by simp [delta_step.j1])
     | succ kj6 =>
      have H:=HA.out
      clear HA
      simp only [delta_step.j1] at H
      by_cases c13:x22_6 = true
      ·subst c13
       have H1:(some 4) = some r:=by rw [if_pos rfl] at H;exact H
       clear H
       have H:=H1
       clear H1
       obtain rfl:=Option.some.inj H
       go_wp2
       go_ret
       exact ⟨by rfl,HB.out⟩
      ·replace c13:=Bool.eq_false_iff.mpr c13
       subst c13
       have H1:(if a0_1 < 1 then (some 2) else (if a0_1 > 2147483647 then (some 2) else ((attr_CheckChange.f kj6 l0_2).bind fun t153=>(some t153)))) = some r:=by rw [if_neg (show ¬ (false = true) by decide)] at H;exact H
       clear H
       have H:=H1
       clear H1
       by_cases c14:a0_1 < 1
       ·rw [if_pos c14] at H
        have c14b0:decide (a0_1 < 1) = true:=decide_eq_true c14
        clear c14
        obtain rfl:=Option.some.inj H
        have hcz15_0:wc.cell? ⟨gb152,0,none⟩ = some (.int .i64 a0_0):=(blk_cell BK152.out 0).trans rfl
        have hcz15_1:wc.cell? ⟨gb152,1,none⟩ = some (.int .i64 a0_1):=(blk_cell BK152.out 1).trans rfl
        have hcz15_2:wc.cell? ⟨gb152,2,none⟩ = some (.slice A0_2 l0_2.length c0_2):=(blk_cell BK152.out 2).trans rfl
        have hcz15_3:wc.cell? ⟨gb152,3,none⟩ = some (.slice A0_3 l0_3.length c0_3):=(blk_cell BK152.out 3).trans rfl
        have hfz15_0:=blk_frozen BK152.out 0
        have hfz15_1:=blk_frozen BK152.out 1
        have hfz15_2:=blk_frozen BK152.out 2
        have hfz15_3:=blk_frozen BK152.out 3
        go_wp2
        go_ret
        exact ⟨by rfl,HB.out⟩
       ·rw [if_neg c14] at H
        have c14b0:decide (a0_1 < 1) = false:=decide_eq_false c14
        clear c14
        by_cases c16:a0_1 > 2147483647
        ·rw [if_pos c16] at H
         have c16b0:decide (2147483647 < a0_1) = true:=decide_eq_true c16
         clear c16
         obtain rfl:=Option.some.inj H
         have hcz17_0:wc.cell? ⟨gb152,0,none⟩ = some (.int .i64 a0_0):=(blk_cell BK152.out 0).trans rfl
         have hcz17_1:wc.cell? ⟨gb152,1,none⟩ = some (.int .i64 a0_1):=(blk_cell BK152.out 1).trans rfl
         have hcz17_2:wc.cell? ⟨gb152,2,none⟩ = some (.slice A0_2 l0_2.length c0_2):=(blk_cell BK152.out 2).trans rfl
         have hcz17_3:wc.cell? ⟨gb152,3,none⟩ = some (.slice A0_3 l0_3.length c0_3):=(blk_cell BK152.out 3).trans rfl
         have hfz17_0:=blk_frozen BK152.out 0
         have hfz17_1:=blk_frozen BK152.out 1
         have hfz17_2:=blk_frozen BK152.out 2
         have hfz17_3:=blk_frozen BK152.out 3
         go_wp2
         go_ret
         exact ⟨by rfl,HB.out⟩
        ·rw [if_neg c16] at H
         have c16b0:decide (2147483647 < a0_1) = false:=decide_eq_false c16
         clear c16
         replace H:=Option.bind_eq_some_iff.mp H
         obtain ⟨t153,A180,H⟩:=H
         replace H:(some t153) = some r:=H
         have A18:=Aside0.mk A180
         clear A180
         obtain rfl:=Option.some.inj H
         have hcz19_0:wc.cell? ⟨gb152,0,none⟩ = some (.int .i64 a0_0):=(blk_cell BK152.out 0).trans rfl
         have hcz19_1:wc.cell? ⟨gb152,1,none⟩ = some (.int .i64 a0_1):=(blk_cell BK152.out 1).trans rfl
         have hcz19_2:wc.cell? ⟨gb152,2,none⟩ = some (.slice A0_2 l0_2.length c0_2):=(blk_cell BK152.out 2).trans rfl
         have hcz19_3:wc.cell? ⟨gb152,3,none⟩ = some (.slice A0_3 l0_3.length c0_3):=(blk_cell BK152.out 3).trans rfl
         have hfz19_0:=blk_frozen BK152.out 0
         have hfz19_1:=blk_frozen BK152.out 1
         have hfz19_2:=blk_frozen BK152.out 2
         have hfz19_3:=blk_frozen BK152.out 3
         go_wp2_with (((with_reducible refine gate_callee (f:=123) rfl ?_);refine goesL_ (some 33) rfl rfl Try.func123 (by kernel_rfl) rfl #[.slice A0_2 l0_2.length c0_2] rfl (by (try simp only [List.map_toArray,List.map_cons,List.map_nil]);rfl) ?_;(with_reducible refine (attr_CheckChange.calls kj6 _ _ l0_2 t153 _ ?side1 ?side2 A18.out).mono ?_);(case side1=>repeat (exact (Kd.C_below HR0_2.out HB.out)));(case side2=>exact HC0_2.out);rintro e w20 ⟨rfl,hb⟩;refine ⟨_,rfl,?_⟩;have n0_:=Aside0.mk (blk_below BK152.out hb);have n1_:=Aside0.mk (below_step HB.out hb);clear BK152;clear HB;have BK152:=n0_;have HB:=n1_;clear n0_ n1_;(try clear hb);(try clear hb2);(try clear hk);(try clear hi)))
         go_ret
         exact ⟨by rfl,HB.out⟩
   ·replace c6:=Bool.eq_false_iff.mpr c6
    subst c6
    have H1:(if a0_0 = 1 then (if a0_1 = 0 then (delta_step.j2 kj1 (decide ((l0_2.length:Int) > 0)) a0_0 a0_1 l0_2 l0_3) else (delta_step.j2 kj1 true a0_0 a0_1 l0_2 l0_3)) else (some 8)) = some r:=by rw [if_neg (show ¬ (false = true) by decide)] at H;exact H
    clear H
    have H:=H1
    clear H1
    by_cases c21:a0_0 = 1
    ·rw [if_pos c21] at H
     have c21b0:(a0_0 == 1) = true:=beq_iff_eq.mpr c21
     have c21b1:(a0_0 != 1) = false:=bne_eq_false_iff_eq.mpr c21
     clear c21
     have HC22:=Aside0.mk H
     clear H
     go_upto_region 10 with (fail)
     go_cut [44] (fun v44 wc=>∃ (kq:Nat) (x44_21:Bool),v44 = .bool x44_21 ∧ Aside0 (delta_step.j2 kq x44_21 a0_0 a0_1 l0_2 l0_3 = some r) ∧ Aside0 (kq ≤ kj1) ∧ Aside0 (wc.heap[gb152]? = some (.cells #[.int .i64 a0_0,.int .i64 a0_1,(.slice A0_2 l0_2.length c0_2),(.slice A0_3 l0_3.length c0_3)] 95 (0,0))) ∧ Aside0 (Below w.heap.size w wc))
     case first =>
      have H:=HC22.out
      clear HC22
      by_cases c23:a0_1 = 0
      ·rw [if_pos c23] at H
       have c23b0:(a0_1 == 0) = true:=beq_iff_eq.mpr c23
       have c23b1:(a0_1 != 0) = false:=bne_eq_false_iff_eq.mpr c23
       clear c23
       (skip)
       have H':=Aside0.mk H
       clear H
       have hcz24_0:wc.cell? ⟨gb152,0,none⟩ = some (.int .i64 a0_0):=(blk_cell BK152.out 0).trans rfl
       have hcz24_1:wc.cell? ⟨gb152,1,none⟩ = some (.int .i64 a0_1):=(blk_cell BK152.out 1).trans rfl
       have hcz24_2:wc.cell? ⟨gb152,2,none⟩ = some (.slice A0_2 l0_2.length c0_2):=(blk_cell BK152.out 2).trans rfl
       have hcz24_3:wc.cell? ⟨gb152,3,none⟩ = some (.slice A0_3 l0_3.length c0_3):=(blk_cell BK152.out 3).trans rfl
       have hfz24_0:=blk_frozen BK152.out 0
       have hfz24_1:=blk_frozen BK152.out 1
       have hfz24_2:=blk_frozen BK152.out 2
       have hfz24_3:=blk_frozen BK152.out 3
       go_wp2
       go_meet
       case rel=>exact ⟨_,(decide ((l0_2.length:Int) > 0)),(by (simp;done)),H',⟨by have:=HJ1.out;omega⟩,⟨by exact BK152.out⟩,⟨HB.out⟩⟩
      ·rw [if_neg c23] at H
       have c23b0:(a0_1 == 0) = false:=beq_eq_false_iff_ne.mpr c23
       have c23b1:(a0_1 != 0) = true:=bne_iff_ne.mpr c23
       (skip)
       have H':=Aside0.mk H
       clear H
       have hcz25_0:wc.cell? ⟨gb152,0,none⟩ = some (.int .i64 a0_0):=(blk_cell BK152.out 0).trans rfl
       have hcz25_1:wc.cell? ⟨gb152,1,none⟩ = some (.int .i64 a0_1):=(blk_cell BK152.out 1).trans rfl
       have hcz25_2:wc.cell? ⟨gb152,2,none⟩ = some (.slice A0_2 l0_2.length c0_2):=(blk_cell BK152.out 2).trans rfl
       have hcz25_3:wc.cell? ⟨gb152,3,none⟩ = some (.slice A0_3 l0_3.length c0_3):=(blk_cell BK152.out 3).trans rfl
       have hfz25_0:=blk_frozen BK152.out 0
       have hfz25_1:=blk_frozen BK152.out 1
       have hfz25_2:=blk_frozen BK152.out 2
       have hfz25_3:=blk_frozen BK152.out 3
       go_wp2
       go_meet
       case rel=>exact ⟨_,(true),(by rfl),H',⟨by have:=HJ1.out;omega⟩,⟨by exact BK152.out⟩,⟨HB.out⟩⟩
     case rest =>
      clear HC22
      try clear c21b0
      try clear c21b1
      obtain ⟨kq,x44_21,rfl,HA,HJ21,BK152,HB⟩:=hcut
      cases kq with
      | zero=>exact absurd HA.out (by simp [delta_step.j2])
      | succ kj21 =>
       have H:=HA.out
       clear HA
       simp only [delta_step.j2] at H
       by_cases c26:x44_21 = true
       ·subst c26
        have H1:(some 4) = some r:=by rw [if_pos rfl] at H;exact H
        clear H
        have H:=H1
        clear H1
        obtain rfl:=Option.some.inj H
        go_wp2
        go_ret
        exact ⟨by rfl,HB.out⟩
       ·replace c26:=Bool.eq_false_iff.mpr c26
        subst c26
        have H1:(if (l0_3.length:Int) = 0 then (some 11) else ((flow_CheckPart.f kj21 l0_3).bind fun t154=>(some t154))) = some r:=by rw [if_neg (show ¬ (false = true) by decide)] at H;exact H
        clear H
        have H:=H1
        clear H1
        by_cases c27:(l0_3.length:Int) = 0
        ·rw [if_pos c27] at H
         have c27b0:((l0_3.length:Int) == 0) = true:=beq_iff_eq.mpr c27
         have c27b1:((l0_3.length:Int) != 0) = false:=bne_eq_false_iff_eq.mpr c27
         clear c27
         obtain rfl:=Option.some.inj H
         have hcz28_0:wc.cell? ⟨gb152,0,none⟩ = some (.int .i64 a0_0):=(blk_cell BK152.out 0).trans rfl
         have hcz28_1:wc.cell? ⟨gb152,1,none⟩ = some (.int .i64 a0_1):=(blk_cell BK152.out 1).trans rfl
         have hcz28_2:wc.cell? ⟨gb152,2,none⟩ = some (.slice A0_2 l0_2.length c0_2):=(blk_cell BK152.out 2).trans rfl
         have hcz28_3:wc.cell? ⟨gb152,3,none⟩ = some (.slice A0_3 l0_3.length c0_3):=(blk_cell BK152.out 3).trans rfl
         have hfz28_0:=blk_frozen BK152.out 0
         have hfz28_1:=blk_frozen BK152.out 1
         have hfz28_2:=blk_frozen BK152.out 2
         have hfz28_3:=blk_frozen BK152.out 3
         go_wp2
         go_ret
         exact ⟨by rfl,HB.out⟩
        ·rw [if_neg c27] at H
         have c27b0:((l0_3.length:Int) == 0) = false:=beq_eq_false_iff_ne.mpr c27
         have c27b1:((l0_3.length:Int) != 0) = true:=bne_iff_ne.mpr c27
         have c27b2:¬ (l0_3 = []):=fun h_=>c27 (by rw [h_];rfl)
         replace H:=Option.bind_eq_some_iff.mp H
         obtain ⟨t154,A290,H⟩:=H
         replace H:(some t154) = some r:=H
         have A29:=Aside0.mk A290
         clear A290
         obtain rfl:=Option.some.inj H
         have hcz30_0:wc.cell? ⟨gb152,0,none⟩ = some (.int .i64 a0_0):=(blk_cell BK152.out 0).trans rfl
         have hcz30_1:wc.cell? ⟨gb152,1,none⟩ = some (.int .i64 a0_1):=(blk_cell BK152.out 1).trans rfl
         have hcz30_2:wc.cell? ⟨gb152,2,none⟩ = some (.slice A0_2 l0_2.length c0_2):=(blk_cell BK152.out 2).trans rfl
         have hcz30_3:wc.cell? ⟨gb152,3,none⟩ = some (.slice A0_3 l0_3.length c0_3):=(blk_cell BK152.out 3).trans rfl
         have hfz30_0:=blk_frozen BK152.out 0
         have hfz30_1:=blk_frozen BK152.out 1
         have hfz30_2:=blk_frozen BK152.out 2
         have hfz30_3:=blk_frozen BK152.out 3
         go_wp2_with (((with_reducible refine gate_callee (f:=61) rfl ?_);refine goesL_ (some 51) rfl rfl Try.func61 (by kernel_rfl) rfl #[.slice A0_3 l0_3.length c0_3] rfl (by (try simp only [List.map_toArray,List.map_cons,List.map_nil]);rfl) ?_;(with_reducible refine (flow_CheckPart.calls kj21 _ _ l0_3 t154 _ ?side1 ?side2 A29.out).mono ?_);(case side1=>repeat (exact (Kd.C_below HR0_3.out HB.out)));(case side2=>exact HC0_3.out);rintro e w31 ⟨rfl,hb⟩;refine ⟨_,rfl,?_⟩;have n0_:=Aside0.mk (blk_below BK152.out hb);have n1_:=Aside0.mk (below_step HB.out hb);clear BK152;clear HB;have BK152:=n0_;have HB:=n1_;clear n0_ n1_;(try clear hb);(try clear hb2);(try clear hk);(try clear hi)))
         go_ret
         exact ⟨by rfl,HB.out⟩
    ·rw [if_neg c21] at H
     have c21b0:(a0_0 == 1) = false:=beq_eq_false_iff_ne.mpr c21
     have c21b1:(a0_0 != 1) = true:=bne_iff_ne.mpr c21
     obtain rfl:=Option.some.inj H
     go_wp2
     go_ret
     exact ⟨by rfl,HB.out⟩
def attr_Same.l0:Nat → List (S91) → List (S91) → Int → Int → Option (Bool)
 | 0,_,_,_,_=>none
 | k + 1,x0,x1,x12,x13=>if x13 < x12 then (if 0 ≤ x13 then (if x13 < (x0.length:Int) then (if x13 < (x1.length:Int) then (if (!((((rd_T91 x0 x13).f0).toList) == (((rd_T91 x1 x13).f0).toList)) || (!((((rd_T91 x0 x13).f1).toList) == (((rd_T91 x1 x13).f1).toList)))) = true then (some false) else (attr_Same.l0 k x0 x1 x12 (wrap64 (x13 + 1)))) else (none)) else (none)) else (none)) else (some true)
def attr_Same.f (k:Nat) (l0:List (S91)) (l1:List (S91)):Option (Bool):=if (l0.length:Int) = (l1.length:Int) then (attr_Same.l0 k l0 l1 (l0.length:Int) 0) else (some false)
set_option maxHeartbeats 8000000 in
set_option maxRecDepth 100000 in
theorem attr_Same.calls (k:Nat) (A0:Option Addr) (c0:Nat) (l0:List (S91)) (A1:Option Addr) (c1:Nat) (l1:List (S91)) (r:Bool) (w:World) (hr0:Kd.C k91 w A0 l0.length l0) (hc0:l0.length ≤ c0) (hr1:Kd.C k91 w A1 l1.length l1) (hc1:l1.length ≤ c1) (h:attr_Same.f k l0 l1 = some r) :
 Calls Try.prog 105 #[.slice A0 l0.length c0,.slice A1 l1.length c1] w fun e w'=>e = .returned (.bool r) ∧ Drawn0 w w':=by
 have hu91:=Try.underlying91
 have HR0:=Aside0.mk hr0
 have HC0:=Aside0.mk hc0
 clear hr0 hc0
 have HR1:=Aside0.mk hr1
 have HC1:=Aside0.mk hc1
 clear hr1 hc1
 have H:(if (l0.length:Int) = (l1.length:Int) then (attr_Same.l0 k l0 l1 (l0.length:Int) 0) else (some false)) = some r:=h
 clear h
 by_cases c3:(l0.length:Int) = (l1.length:Int)
 ·rw [if_pos c3] at H
  have c3b0:((l0.length:Int) == (l1.length:Int)) = true:=beq_iff_eq.mpr c3
  have c3b1:((l0.length:Int) != (l1.length:Int)) = false:=bne_eq_false_iff_eq.mpr c3
  have c3b2:(l0.length == l1.length) = true:=by (simp at c3 ⊢;omega)
  clear c3
  have H':=Aside0.mk H
  clear H
  go_enter Try.func105,Try.ntmps105
  go_wp2
  repeat (go_quiet (fail);try go_wp2)
  go_loopg [13] k (fun kq v13 w'=>∃ (x13_1:Int),v13 = .int .i64 x13_1 ∧ Aside0 (attr_Same.l0 kq l0 l1 (l0.length:Int) x13_1 = some r) ∧ Aside0 (kq ≤ k) ∧ Drawn0 w w')
  case atStart=>exact ⟨(0),(by rfl),H',⟨Nat.le_refl _⟩,by repeat (exact Drawn0.refl _)⟩
  case round =>
   clear H'
   try clear c3b0
   try clear c3b1
   try clear c3b2
   obtain ⟨x13_1,rfl,HA,HK1,⟨m1,rfl⟩⟩:=hrel
   cases gk with
   | zero=>exact absurd HA.out (by simp [attr_Same.l0])
   | succ k1 =>
    have H:=HA.out
    clear HA
    simp only [attr_Same.l0] at H
    by_cases c4:x13_1 < (l0.length:Int)
    ·rw [if_pos c4] at H
     have c4b0:decide (x13_1 < (l0.length:Int)) = true:=decide_eq_true c4
     clear c4
     by_cases c5:0 ≤ x13_1
     ·rw [if_pos c5] at H
      have c5b0:decide (0 ≤ x13_1) = true:=decide_eq_true c5
      clear c5
      by_cases c6:x13_1 < (l0.length:Int)
      ·rw [if_pos c6] at H
       have c6b0:decide (x13_1 < (l0.length:Int)) = true:=decide_eq_true c6
       clear c6
       by_cases c7:x13_1 < (l1.length:Int)
       ·rw [if_pos c7] at H
        have c7b0:decide (x13_1 < (l1.length:Int)) = true:=decide_eq_true c7
        clear c7
        by_cases c8:(!((((rd_T91 l0 x13_1).f0).toList) == (((rd_T91 l1 x13_1).f0).toList)) || (!((((rd_T91 l0 x13_1).f1).toList) == (((rd_T91 l1 x13_1).f1).toList)))) = true
        ·rw [if_pos c8] at H
         have c8b0:(!((((rd_T91 l0 x13_1).f0).toList) == (((rd_T91 l1 x13_1).f0).toList)) || (!((((rd_T91 l0 x13_1).f1).toList) == (((rd_T91 l1 x13_1).f1).toList)))) = true:=c8
         clear c8
         obtain rfl:=Option.some.inj H
         have p155:0 ≤ (x13_1:Int):=of_decide_eq_true (by assumption)
         have q155:x13_1 < (l0.length:Int):=of_decide_eq_true (by assumption)
         obtain ⟨ad155,e155,hx155_0,hx155_1⟩:=at_T91 HR0.out x13_1 p155 q155
         cases e155
         replace p155:=eq_true p155
         replace q155:=eq_true q155
         have p156:0 ≤ (x13_1:Int):=of_decide_eq_true (by assumption)
         have q156:x13_1 < (l1.length:Int):=of_decide_eq_true (by assumption)
         obtain ⟨ad156,e156,hx156_0,hx156_1⟩:=at_T91 HR1.out x13_1 p156 q156
         cases e156
         replace p156:=eq_true p156
         replace q156:=eq_true q156
         go_wp2
         repeat (go_quiet (fail);try go_wp2)
         go_ret
         exact ⟨by rfl,by repeat (first | exact Drawn0.refl _ | apply Drawn0.step)⟩
        ·rw [if_neg c8] at H
         have c8b0:(!((((rd_T91 l0 x13_1).f0).toList) == (((rd_T91 l1 x13_1).f0).toList)) || (!((((rd_T91 l0 x13_1).f1).toList) == (((rd_T91 l1 x13_1).f1).toList)))) = false:=by simpa using c8
         clear c8
         have H':=Aside0.mk H
         clear H
         have p155:0 ≤ (x13_1:Int):=of_decide_eq_true (by assumption)
         have q155:x13_1 < (l0.length:Int):=of_decide_eq_true (by assumption)
         obtain ⟨ad155,e155,hx155_0,hx155_1⟩:=at_T91 HR0.out x13_1 p155 q155
         cases e155
         replace p155:=eq_true p155
         replace q155:=eq_true q155
         have p156:0 ≤ (x13_1:Int):=of_decide_eq_true (by assumption)
         have q156:x13_1 < (l1.length:Int):=of_decide_eq_true (by assumption)
         obtain ⟨ad156,e156,hx156_0,hx156_1⟩:=at_T91 HR1.out x13_1 p156 q156
         cases e156
         replace p156:=eq_true p156
         replace q156:=eq_true q156
         go_wp2
         repeat (go_quiet (fail);try go_wp2)
         go_roundg k1
         case measure=>have:=HK1.out;omega
         case rel=>exact ⟨(wrap64 (x13_1 + 1)),(by rfl),H',⟨by have:=HK1.out;omega⟩,by repeat (first | exact Drawn0.refl _ | apply Drawn0.step)⟩
       ·rw [if_neg c7] at H
        exact absurd H (by simp)
      ·rw [if_neg c6] at H
       exact absurd H (by simp)
     ·rw [if_neg c5] at H
      exact absurd H (by simp)
    ·rw [if_neg c4] at H
     have c4b0:decide (x13_1 < (l0.length:Int)) = false:=decide_eq_false c4
     clear c4
     obtain rfl:=Option.some.inj H
     go_wp2
     repeat (go_quiet (fail);try go_wp2)
     go_ret
     exact ⟨by rfl,by repeat (first | exact Drawn0.refl _ | apply Drawn0.step)⟩
 ·rw [if_neg c3] at H
  have c3b0:((l0.length:Int) == (l1.length:Int)) = false:=beq_eq_false_iff_ne.mpr c3
  have c3b1:((l0.length:Int) != (l1.length:Int)) = true:=bne_iff_ne.mpr c3
  have c3b2:(l0.length == l1.length) = false:=by (simp at c3 ⊢;omega)
  obtain rfl:=Option.some.inj H
  go_enter Try.func105,Try.ntmps105
  go_wp2
  repeat (go_quiet (fail);try go_wp2)
  go_ret
  exact ⟨by rfl,by repeat (exact Drawn0.refl _)⟩
end Go.Proofs.Ytlcodfjlbhjkbaa.PDelta
end

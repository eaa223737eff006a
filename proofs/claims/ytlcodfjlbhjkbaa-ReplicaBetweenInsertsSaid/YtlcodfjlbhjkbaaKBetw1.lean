/- Parts of the proof of Betw: nothing is claimed here by itself. -/
import Derived.Test.YtlcodfjlbhjkbaaKBetw0
import Derived.Laws.Strings
import Derived.Test.YtlcodfjlbhjkbaaProg
import Derived.Below
import Derived.Deep.Draws
import Derived.Deep.AppendLies
import Derived.Maps.AppendAt
import Derived.OwnWalk
import Derived.Laws.BytesArg
import Derived.Laws.MakeOwn
import Derived.Laws.OwnMore
import Derived.Deep.OwnRows
import Derived.Tactics
import Derived.Lib.ConvBytes
import Derived.Laws.Slices
import Derived.WalkKit
import Derived.KernelRfl
import Derived.RowKit3
import Derived.Deep.LoopGhost
import Derived.Deep.QuietTactic
import Derived.BigQuiet
import Derived.WideLaws
import Derived.Deep.DeepCutAuto
import Derived.Deep.CutBlock
import Derived.Deep.RegionHeld3
import Derived.Laws.Rows
import Derived.Lib.AppendStr
import Derived.ArgAppend
import Derived.Laws.IdiomCopy
import Derived.OrdersHeld
import Derived.Laws.BitsLemmas
import Derived.RowKit
import Derived.StillTailTactics
import Derived.Maps.RangeWalk
import Derived.Maps.OwnSet
set_option linter.unusedVariables false
set_option linter.unusedSimpArgs false
section
namespace Go.Proofs.Ytlcodfjlbhjkbaa.Ord
theorem less_irrefl (x:List UInt8):Op.bytesLess x x = false:=by
 induction x with
 | nil=>rfl
 | cons a x ih=>simp [Op.bytesLess,ih,UInt8.lt_irrefl]
theorem less_trans {x y z:List UInt8}:Op.bytesLess x y = true → Op.bytesLess y z = true → Op.bytesLess x z = true:=by
 induction x generalizing y z with
 | nil =>
  cases y with
  | nil=>intro h;simp [Op.bytesLess] at h
  | cons b y=>cases z with
   | nil=>intro _ h;simp [Op.bytesLess] at h
   | cons c z=>intros;rfl
 | cons a x ih =>
  cases y with
  | nil=>intro h;simp [Op.bytesLess] at h
  | cons b y=>cases z with
   | nil=>intro _ h;simp [Op.bytesLess] at h
   | cons c z =>
    simp only [Op.bytesLess,Bool.or_eq_true,decide_eq_true_eq,Bool.and_eq_true,beq_iff_eq]
    rintro (h1 | ⟨rfl,h1⟩) (h2 | ⟨rfl,h2⟩)
    ·exact .inl (UInt8.lt_trans h1 h2)
    ·exact .inl h1
    ·exact .inl h2
    ·exact .inr ⟨rfl,ih h1 h2⟩
theorem less_total {x y:List UInt8}:Op.bytesLess x y = false → Op.bytesLess y x = false → x = y:=by
 induction x generalizing y with
 | nil =>
  cases y with
  | nil=>intros;rfl
  | cons b y=>intro h;simp [Op.bytesLess] at h
 | cons a x ih =>
  cases y with
  | nil=>intro _ h;simp [Op.bytesLess] at h
  | cons b y =>
   simp only [Op.bytesLess,Bool.or_eq_false_iff,decide_eq_false_iff_not,Bool.and_eq_false_iff,beq_eq_false_iff_ne]
   rintro ⟨h1,h2⟩ ⟨h3,h4⟩
   have hab:a = b:=UInt8.le_antisymm (UInt8.not_lt.1 h3) (UInt8.not_lt.1 h1)
   subst hab
   rw [ih (h2.resolve_left (fun h=>h rfl)) (h4.resolve_left (fun h=>h rfl))]
theorem less_asymm {x y:List UInt8} (h:Op.bytesLess x y = true):Op.bytesLess y x = false:=by
 cases h':Op.bytesLess y x with
 | false=>rfl
 | true=>have:=less_trans h h';rw [less_irrefl] at this;cases this
theorem le_eq (x y:List UInt8):(Op.bytesLess x y || x == y) = !Op.bytesLess y x:=by
 cases h:Op.bytesLess x y with
 | true=>rw [less_asymm h];rfl
 | false =>
  cases h':Op.bytesLess y x with
  | true =>
   have:(x == y) = false:=beq_eq_false_iff_ne.2 (fun e=>by subst e;rw [less_irrefl] at h';cases h')
   rw [this];rfl
  | false=>rw [less_total h h'];simp
theorem leq_str (t:TypeId) (a b:ByteArray):binOp .leq t (.string a) (.string b) = pure (.bool (!Op.bytesLess b.toList a.toList)):=by
 rw [← le_eq];simp [binOp,Op.stringOp]
theorem gtr_str (t:TypeId) (a b:ByteArray):binOp .gtr t (.string a) (.string b) = pure (.bool (Op.bytesLess b.toList a.toList)):=by
 rw [← Bool.not_not (Op.bytesLess b.toList a.toList),← le_eq];simp [binOp,Op.stringOp]
theorem geq_str (t:TypeId) (a b:ByteArray):binOp .geq t (.string a) (.string b) = pure (.bool (!Op.bytesLess a.toList b.toList)):=by simp [binOp,Op.stringOp]
end Go.Proofs.Ytlcodfjlbhjkbaa.Ord
end
section
namespace Go.Proofs.Ytlcodfjlbhjkbaa.PDelta
open Go.RowKit Go.Proofs.YtlcodfjlbhjkbaaW.PrintWords Go.Proofs.YtlcodfjlbhjkbaaW.PrintLast Go.Proofs.YtlcodfjlbhjkbaaW.PrintMore
attribute [local go_sem] max2_int min2_int max_two min_two max_three min_three max_four min_four
attribute [local go_sem high] Go.Proofs.Ytlcodfjlbhjkbaa.Ord.leq_str Go.Proofs.Ytlcodfjlbhjkbaa.Ord.gtr_str Go.Proofs.Ytlcodfjlbhjkbaa.Ord.geq_str
def errW:Option Int → Value
 | none=>.nilIface
 | some c=>.iface 0 (.int .i64 c)
theorem errW_none:errW none = .nilIface:=rfl
theorem errW_some (c:Int):errW (some c) = .iface 0 (.int .i64 c):=rfl
theorem info91:(Try.prog.info? 91).map (fun i=>(i.zero,i.size,i.bytes)) = some (some (.agg #[(.string ⟨#[]⟩),(.string ⟨#[]⟩)]),2,32):=by kernel_rfl
structure S91 where
 f0:ByteArray
 f1:ByteArray
def z91:S91:=⟨(⟨#[]⟩:ByteArray),(⟨#[]⟩:ByteArray)⟩
def k91:Kd S91:=Kd.iso (Kd.pair Kd.string Kd.string) (fun x:S91=>(x.f0,x.f1))
theorem k91_open {w:World} {x:S91} {cs:List Value} (h:k91.K w x cs):cs = [.string x.f0,.string x.f1]:=by
 obtain ⟨_,_,rfl,rfl,rfl⟩:=h
 exact rfl
theorem k91_openM {w:World} {base:Nat} {ok:Nat → Prop} {x:S91} {cs:List Value} (h:k91.M w base ok x cs):cs = [.string x.f0,.string x.f1]:=by
 obtain ⟨_,_,rfl,rfl,rfl⟩:=h
 exact rfl
theorem k91_mkM (w:World) (base:Nat) (ok:Nat → Prop) (x:S91) :k91.M w base ok x [.string x.f0,.string x.f1]:=⟨[.string x.f0],[.string x.f1],rfl,rfl,rfl⟩
def rd_T91 (xs:List S91) (i:Int):S91:=xs.getD i.toNat z91
theorem at_T91 {w:World} {A:Option Addr} {n:Nat} {xs:List S91} (h:Kd.C k91 w A n xs) (i:Int) (h0:0 ≤ i) (h1:i < n):∃ ad ,A = some ad ∧ w.cell? (ad.add (i.toNat * 2)) = some (.string (rd_T91 xs i).f0) ∧ w.cell? ⟨(ad.add (i.toNat * 2)).block,(ad.add (i.toNat * 2)).off + 1,none⟩ = some (.string (rd_T91 xs i).f1):=by
 obtain ⟨ad,c,e,_,hK,hc0⟩:=Kd.C_get h z91 i h0 h1
 have hc:∀ j u,c[j]? = some u → w.cell? (ad.add (i.toNat * 2 + j)) = some u:=hc0
 obtain rfl:=k91_open hK
 exact ⟨ad,e,hc 0 _ rfl,by rw [← add_field _ _ 1 (by omega)];exact hc 1 _ rfl⟩
structure S26 where
 f0:Int
 f1:Int
 f2:(List S91)
structure S95 where
 f0:Int
 f1:Int
 f2:(List S91)
 f3:(List S26)
def chanceryref1_Within.f (a0:Int) (a1:Int) (a2:Int):Option (Int):=if (wrap64 ((wrap64 (a2 - a1)) + 1)) = 0 then (none) else (some (wrap64 (a1 + (Int.tmod (wrap64 ((Int.tmod a0 (wrap64 ((wrap64 (a2 - a1)) + 1))) + (wrap64 ((wrap64 (a2 - a1)) + 1)))) (wrap64 ((wrap64 (a2 - a1)) + 1))))))
set_option maxHeartbeats 8000000 in
set_option maxRecDepth 100000 in
theorem chanceryref1_Within.calls (a0:Int) (a1:Int) (a2:Int) (r:Int) (w:World) (h:chanceryref1_Within.f a0 a1 a2 = some r) :
 Calls Try.prog 20 #[.int .i64 a0,.int .i64 a1,.int .i64 a2] w fun e w'=>e = .returned (.int .i64 r) ∧ Drawn0 w w':=by
 have H:(if (wrap64 ((wrap64 (a2 - a1)) + 1)) = 0 then (none) else (some (wrap64 (a1 + (Int.tmod (wrap64 ((Int.tmod a0 (wrap64 ((wrap64 (a2 - a1)) + 1))) + (wrap64 ((wrap64 (a2 - a1)) + 1)))) (wrap64 ((wrap64 (a2 - a1)) + 1))))))) = some r:=h
 clear h
 by_cases c4:(wrap64 ((wrap64 (a2 - a1)) + 1)) = 0
 ·rw [if_pos c4] at H
  exact absurd H (by simp)
 ·rw [if_neg c4] at H
  have c4b0:((wrap64 ((wrap64 (a2 - a1)) + 1)) == 0) = false:=beq_eq_false_iff_ne.mpr c4
  have c4b1:((wrap64 ((wrap64 (a2 - a1)) + 1)) != 0) = true:=bne_iff_ne.mpr c4
  obtain rfl:=Option.some.inj H
  go_enter Try.func20,Try.ntmps20
  go_wp2
  go_ret
  exact ⟨by rfl,by repeat (exact Drawn0.refl _)⟩
end Go.Proofs.Ytlcodfjlbhjkbaa.PDelta
end
section
namespace Go.Proofs.Ytlcodfjlbhjkbaa.PDelta
open Go.RowKit Go.Proofs.YtlcodfjlbhjkbaaW.PrintWords Go.Proofs.YtlcodfjlbhjkbaaW.PrintLast Go.Proofs.YtlcodfjlbhjkbaaW.PrintMore
structure DiceSt (w0:World) (g:Nat) (raw:List Int) (u:Nat) (w:World):Prop where
 ex:∃ (A:Option Addr) (c:Nat),w.heap[g]? = some (.cells #[.slice A raw.length c,.int .i64 (u:Int)] 79 (0,0)) ∧ Kd.C (Kd.int .i64) w0 A raw.length raw ∧ raw.length ≤ c
theorem wrap_mid {i:Int} (h0:0 ≤ i) (h:i ≤ 4611686018427387904):wrap64 i = i:=by unfold wrap64;omega
theorem wrap_k {i:Int} (h0:0 ≤ i) (h:i ≤ 4611686018427387904):IntKind.i64.wrap i = i:=by rw [i64_w];exact wrap_mid h0 h
theorem add_block (a:Addr) (n:Nat):(a.add n).block = a.block:=by unfold Go.Addr.add;split <;> rfl
def rollF (raw:List Int) (u:Nat) (n:Int):Option Int :=
 if raw.length = 0 then some 0 else chanceryref1_Within.f (wrap64 (rd raw ((u % raw.length:Nat):Int) + (((u + 1) / raw.length:Nat):Int))) 0 (wrap64 (n - 1))
def rollU (raw:List Int) (u:Nat):Nat:=if raw.length = 0 then u else u + 1
set_option maxRecDepth 100000 in
set_option maxHeartbeats 4000000 in
theorem roll_calls (w0:World) (g:Nat) (raw:List Int) (u:Nat) (n r:Int) (w:World) (h0:w0.heap.size ≤ g) (h:DiceSt w0 g raw u w) (hB:Below w0.heap.size w0 w) (hu:u < 4611686018427387904) (hf:rollF raw u n = some r) :
 Calls Try.prog 40 #[.pointer (some ⟨g,0,none⟩),.int .i64 n] w fun e w'=>e = .returned (.int .i64 r) ∧ DiceSt w0 g raw (rollU raw u) w' ∧ (w.heap.size ≤ w'.heap.size ∧ ∀ k,k < w.heap.size → k ≠ g → w'.heap[k]? = w.heap[k]?) ∧ Below w0.heap.size w0 w':=by
 have hu79:=Try.underlying79
 obtain ⟨A,c,hb,hC,hc⟩:=h.ex
 have hc0:w.cell? ⟨g,0,none⟩ = some (.slice A raw.length c):=(blk_cell hb 0).trans rfl
 have hc1:w.cell? ⟨g,1,none⟩ = some (.int .i64 (u:Int)):=(blk_cell hb 1).trans rfl
 have hf1:=blk_frozen hb 1
 have HB:=Aside0.mk hB
 have HC:=Aside0.mk hC
 have HBL:=Aside0.mk hb
 have HCC:=Aside0.mk hc
 have H0:=Aside0.mk h0
 have HS:=Aside0.mk h
 clear h hb hC hB hc h0
 by_cases c1:raw.length = 0
 ·have e':rollU raw u = u:=if_pos c1
  rw [rollF,if_pos c1] at hf
  injection hf with hf
  subst hf
  have c1b:((raw.length:Int) == 0) = true:=beq_iff_eq.mpr (by omega)
  have c1c:(raw.length == 0) = true:=beq_iff_eq.mpr c1
  rw [e']
  clear e' c1
  go_enter Try.func40,Try.ntmps40
  go_wp2
  go_ret
  exact ⟨rfl,HS.out,⟨Nat.le_refl _,fun _ _ _=>rfl⟩,HB.out⟩
 ·have e':rollU raw u = u + 1:=if_neg c1
  rw [rollF,if_neg c1] at hf
  have c1b:((raw.length:Int) == 0) = false:=beq_eq_false_iff_ne.mpr (by omega)
  have c1c:(raw.length == 0) = false:=beq_eq_false_iff_ne.mpr c1
  rw [e']
  have hlen:0 < raw.length:=by omega
  have hm':u % raw.length < raw.length:=Nat.mod_lt _ hlen
  have hmu:u % raw.length ≤ u:=Nat.mod_le _ _
  have hqu:(u + 1) / raw.length ≤ u + 1:=Nat.div_le_self _ _
  have t1:Int.tmod (u:Int) (raw.length:Int) = ((u % raw.length:Nat):Int):=rfl
  have t2:Int.tdiv ((u:Int) + 1) (raw.length:Int) = (((u + 1) / raw.length:Nat):Int):=rfl
  obtain ⟨m,hm⟩:∃ m,m = u % raw.length:=⟨_,rfl⟩
  obtain ⟨q,hq⟩:∃ q,q = (u + 1) / raw.length:=⟨_,rfl⟩
  rw [← hm] at t1 hf hm' hmu
  rw [← hq] at t2 hf hqu
  clear hm hq
  obtain ⟨ad0,e0,hx0⟩:=Kd.at_int HC.out (m:Int) (by omega) (by omega)
  cases e0
  have HGN:Aside0 (g ≠ ad0.block):=⟨fun e=>by have:=World.block_lt_of_cell? w0 _ hx0;have:=H0.out;rw [add_block] at *;omega⟩
  replace hx0:=(HB.out.cell (World.block_lt_of_cell? w0 _ hx0)).trans hx0
  replace hx0:=(World.cell?_setCell_far w ⟨g,1,none⟩ (ad0.add ((m:Int)).toNat) (.int .i64 ((u:Int) + 1)) (by rw [add_block];exact HGN.out)).trans hx0
  simp only [Int.toNat_natCast] at hx0
  have w1:wrap64 ((u:Int) + 1) = (u:Int) + 1:=wrap_mid (by omega) (by omega)
  have w2:wrap64 (((u:Int) + 1) - 1) = (u:Int):=by rw [Int.add_sub_cancel];exact wrap_mid (by omega) (by omega)
  have w3:IntKind.i64.wrap (u:Int) = (u:Int):=wrap_k (by omega) (by omega)
  have w5:IntKind.i64.wrap (m:Int) = (m:Int):=wrap_k (by omega) (by omega)
  have w6:IntKind.i64.wrap (q:Int) = (q:Int):=wrap_k (by omega) (by omega)
  have HF:=Aside0.mk hf
  have q0:(m:Int) < (raw.length:Int):=by omega
  have q1:m < raw.length:=by omega
  have c1d:¬ ((raw.length:Int) = 0):=by omega
  clear e' hf hu hmu hqu
  go_enter Try.func40,Try.ntmps40
  go_wp2
  refine wp_region_still_tail 30 (by kernel_rfl) (by kernel_rfl) ?_
  simp only [List.take_succ_cons,List.take_zero,List.drop_succ_cons,List.drop_zero]
  change wpStill _ _ (World.drew _) (fun a'=>wpList _ _ _ _ a' (World.drew _)) _ _
  repeat still_step
  refine wpStill_nil ?_
  go_wp2_with (go_at_call 20;(with_reducible refine (chanceryref1_Within.calls _ _ _ r _ HF.out).mono ?_);rintro e1 w5 ⟨rfl,hd⟩;have HDR:=Aside0.mk hd;clear hd)
  go_ret
  have hs:w.heap.size = (w.setCell ⟨g,1,none⟩ (.int .i64 ((u:Int) + 1))).heap.size:=by simp [World.setCell]
  have hbb:=Below.refl (w.setCell ⟨g,1,none⟩ (.int .i64 ((u:Int) + 1))).heap.size (w.setCell ⟨g,1,none⟩ (.int .i64 ((u:Int) + 1)))
  have hbd:=below_step (below_drew1 hbb) HDR.out.below
  refine ⟨rfl,⟨_,_,(hbd.block g (by rw [← hs];exact blk_lt HBL.out)).trans (blk_put HBL.out 1 _ rfl),HC.out,HCC.out⟩,⟨by rw [hs];exact hbd.size,fun k hk hg=>?_⟩,below_step (below_set HB.out H0.out) hbd⟩
  rw [hbd.block k (by rw [← hs];exact hk),Below.heap_setCell _ _ _ _ hg]
end Go.Proofs.Ytlcodfjlbhjkbaa.PDelta
end
section
namespace Go.Proofs.Ytlcodfjlbhjkbaa.PDelta
open Go.RowKit Go.Proofs.YtlcodfjlbhjkbaaW.PrintWords Go.Proofs.YtlcodfjlbhjkbaaW.PrintLast Go.Proofs.YtlcodfjlbhjkbaaW.PrintMore
attribute [local go_sem] max2_int min2_int max_two min_two max_three min_three max_four min_four
attribute [local go_sem high] Go.Proofs.Ytlcodfjlbhjkbaa.Ord.leq_str Go.Proofs.Ytlcodfjlbhjkbaa.Ord.gtr_str Go.Proofs.Ytlcodfjlbhjkbaa.Ord.geq_str
theorem eqA91 (d:Nat) (w:World) (x0 y0:ByteArray) (x1 y1:ByteArray) :
 (Op.equalIn (d + 2) 91 (.agg #[.string x0,.string x1]) (.agg #[.string y0,.string y1])).run Try.prog w = .ok (x0.toList == y0.toList && (x1.toList == y1.toList)) w:=by
 refine eqA_of Try.underlying91 (by kernel_rfl) ?_
 refine eqf_cons (by rfl) (by go_simp;rfl) (by go_simp;rfl) (by go_simp) ?_
 exact eqf_last (by rfl) (by go_simp;rfl) (by go_simp;rfl) (by go_simp)
mutual
def attr_Name.j0:Nat → ByteArray → Bool → Option (Bool)
 | 0,_,_=>none
 | k + 1,x0,x21=>if x21 = true then (some false) else (attr_Name.l0 k x0 (x0.size:Int) 0)
def attr_Name.l0:Nat → ByteArray → Int → Int → Option (Bool)
 | 0,_,_,_=>none
 | k + 1,x0,x23,x24=>if x24 < x23 then (if 0 ≤ x24 then (if x24 < (x0.size:Int) then (if (bt x0 x24) < 97 then (if (bt x0 x24) < 48 then (if (bt x0 x24) = 46 then (attr_Name.l0 k x0 x23 (wrap64 (x24 + 1))) else (if (bt x0 x24) = 45 then (attr_Name.l0 k x0 x23 (wrap64 (x24 + 1))) else (some false))) else (if (bt x0 x24) > 57 then (if (bt x0 x24) = 46 then (attr_Name.l0 k x0 x23 (wrap64 (x24 + 1))) else (if (bt x0 x24) = 45 then (attr_Name.l0 k x0 x23 (wrap64 (x24 + 1))) else (some false))) else (attr_Name.l0 k x0 x23 (wrap64 (x24 + 1))))) else (if (bt x0 x24) > 122 then (if (bt x0 x24) < 48 then (if (bt x0 x24) = 46 then (attr_Name.l0 k x0 x23 (wrap64 (x24 + 1))) else (if (bt x0 x24) = 45 then (attr_Name.l0 k x0 x23 (wrap64 (x24 + 1))) else (some false))) else (if (bt x0 x24) > 57 then (if (bt x0 x24) = 46 then (attr_Name.l0 k x0 x23 (wrap64 (x24 + 1))) else (if (bt x0 x24) = 45 then (attr_Name.l0 k x0 x23 (wrap64 (x24 + 1))) else (some false))) else (attr_Name.l0 k x0 x23 (wrap64 (x24 + 1))))) else (attr_Name.l0 k x0 x23 (wrap64 (x24 + 1))))) else (none)) else (none)) else (some true)
end
def attr_Name.f (k:Nat) (a0:ByteArray):Option (Bool):=if a0.toList = ([]:List UInt8) then (attr_Name.j0 k a0 true) else (if (a0.size:Int) > 24 then (attr_Name.j0 k a0 true) else (if 0 < (a0.size:Int) then (if (bt a0 0) < 97 then (attr_Name.j0 k a0 true) else (attr_Name.j0 k a0 (decide ((bt a0 0) > 122)))) else (none)))
theorem attr_Name.mono_l:∀ k,(∀ y0 y1,LeO (attr_Name.j0 k y0 y1) (attr_Name.j0 (k + 1) y0 y1)) ∧ (∀ y0 y1 y2,LeO (attr_Name.l0 k y0 y1 y2) (attr_Name.l0 (k + 1) y0 y1 y2))
 | 0=>⟨fun _ _ r h=>by simp [attr_Name.j0] at h,fun _ _ _ r h=>by simp [attr_Name.l0] at h⟩
 | k + 1=>by
  obtain ⟨ih0,ih1⟩:=attr_Name.mono_l k
  refine ⟨?_,?_⟩
  ·intro y0 y1
   unfold attr_Name.j0
   repeat' first | (with_reducible exact ih1 _ _ _) | (with_reducible exact LeO.refl _) | (with_reducible refine LeO.ite ?_ ?_)
  ·intro y0 y1 y2
   unfold attr_Name.l0
   repeat' first | (with_reducible exact ih1 _ _ _) | (with_reducible exact LeO.refl _) | (with_reducible refine LeO.ite ?_ ?_)
theorem attr_Name.mono:∀ a0 k,LeO (attr_Name.f k a0) (attr_Name.f (k + 1) a0):=by
 intro a0 k
 obtain ⟨ih0,ih1⟩:=attr_Name.mono_l k
 unfold attr_Name.f
 repeat' first | (with_reducible exact ih0 _ _) | (with_reducible exact LeO.refl _) | (with_reducible refine LeO.ite ?_ ?_)
set_option maxHeartbeats 8000000 in
set_option maxRecDepth 100000 in
theorem attr_Name.calls (k:Nat) (a0:ByteArray) (r:Bool) (w:World) (h:attr_Name.f k a0 = some r) :
 Calls Try.prog 140 #[.string a0] w fun e w'=>e = .returned (.bool r) ∧ Drawn0 w w':=by
 have H:(if a0.toList = ([]:List UInt8) then (attr_Name.j0 k a0 true) else (if (a0.size:Int) > 24 then (attr_Name.j0 k a0 true) else (if 0 < (a0.size:Int) then (if (bt a0 0) < 97 then (attr_Name.j0 k a0 true) else (attr_Name.j0 k a0 (decide ((bt a0 0) > 122)))) else (none)))) = some r:=h
 clear h
 have HC2:=Aside0.mk H
 clear H
 go_enter Try.func140,Try.ntmps140
 go_upto_region 1 with (fail)
 go_cut [21] (fun v21 wc=>∃ (kq:Nat) (x21_1:Bool),v21 = .bool x21_1 ∧ Aside0 (attr_Name.j0 kq a0 x21_1 = some r) ∧ Aside0 (kq ≤ k) ∧ Drawn0 w wc)
 case first =>
  have H:=HC2.out
  clear HC2
  by_cases c3:a0.toList = ([]:List UInt8)
  ·rw [if_pos c3] at H
   have c3b0:(a0.toList == ([]:List UInt8)) = true:=beq_iff_eq.mpr c3
   have c3b1:(a0.toList != ([]:List UInt8)) = false:=bne_eq_false_iff_eq.mpr c3
   clear c3
   (skip)
   have H':=Aside0.mk H
   clear H
   go_wp2
   go_meet
   case rel=>exact ⟨_,(true),(by rfl),H',⟨by omega⟩,by repeat (exact Drawn0.refl _)⟩
  ·rw [if_neg c3] at H
   have c3b0:(a0.toList == ([]:List UInt8)) = false:=beq_eq_false_iff_ne.mpr c3
   have c3b1:(a0.toList != ([]:List UInt8)) = true:=bne_iff_ne.mpr c3
   (skip)
   by_cases c4:(a0.size:Int) > 24
   ·rw [if_pos c4] at H
    have c4b0:decide (24 < (a0.size:Int)) = true:=decide_eq_true c4
    have c4b1:decide (24 < a0.size) = true:=decide_eq_true (by omega)
    clear c4
    have H':=Aside0.mk H
    clear H
    go_wp2
    go_meet
    case rel=>exact ⟨_,(true),(by rfl),H',⟨by omega⟩,by repeat (exact Drawn0.refl _)⟩
   ·rw [if_neg c4] at H
    have c4b0:decide (24 < (a0.size:Int)) = false:=decide_eq_false c4
    have c4b1:decide (24 < a0.size) = false:=decide_eq_false (by omega)
    clear c4
    by_cases c5:0 < (a0.size:Int)
    ·rw [if_pos c5] at H
     have c5b0:decide (0 < (a0.size:Int)) = true:=decide_eq_true c5
     have c5b1:decide (0 < a0.size) = true:=decide_eq_true (by omega)
     clear c5
     by_cases c7:(bt a0 0) < 97
     ·rw [if_pos c7] at H
      have c7b0:decide ((bt a0 0) < 97) = true:=decide_eq_true c7
      clear c7
      have H':=Aside0.mk H
      clear H
      have p6:0 ≤ (0:Int):=(by omega)
      have q6:0 < a0.size:=(by have:(0:Int) < (a0.size:Int):=of_decide_eq_true (by assumption);omega)
      have hx6:∀ h:0 < a0.size,((a0[0]'h).toNat:Int) = bt a0 0:=bt_at a0 0
      clear p6
      have qi6:(0 < (a0.size:Int)) = True:=eq_true (of_decide_eq_true (by assumption))
      replace q6:=eq_true q6
      go_wp2
      go_meet
      case rel=>exact ⟨_,(true),(by rfl),H',⟨by omega⟩,by repeat (exact Drawn0.refl _)⟩
     ·rw [if_neg c7] at H
      have c7b0:decide ((bt a0 0) < 97) = false:=decide_eq_false c7
      clear c7
      have H':=Aside0.mk H
      clear H
      have p6:0 ≤ (0:Int):=(by omega)
      have q6:0 < a0.size:=(by have:(0:Int) < (a0.size:Int):=of_decide_eq_true (by assumption);omega)
      have hx6:∀ h:0 < a0.size,((a0[0]'h).toNat:Int) = bt a0 0:=bt_at a0 0
      clear p6
      have qi6:(0 < (a0.size:Int)) = True:=eq_true (of_decide_eq_true (by assumption))
      replace q6:=eq_true q6
      have p8:0 ≤ (0:Int):=(by omega)
      have q8:0 < a0.size:=(by have:(0:Int) < (a0.size:Int):=of_decide_eq_true (by assumption);omega)
      have hx8:∀ h:0 < a0.size,((a0[0]'h).toNat:Int) = bt a0 0:=bt_at a0 0
      clear p8
      have qi8:(0 < (a0.size:Int)) = True:=eq_true (of_decide_eq_true (by assumption))
      replace q8:=eq_true q8
      go_wp2
      go_meet
      case rel=>exact ⟨_,(decide ((bt a0 0) > 122)),(by rfl),H',⟨by omega⟩,by repeat (exact Drawn0.refl _)⟩
    ·rw [if_neg c5] at H
     exact absurd H (by simp)
 case rest =>
  clear HC2
  obtain ⟨kq,x21_1,rfl,HA,HJ1,⟨mc1,rfl⟩⟩:=hcut
  cases kq with
  | zero=>exact absurd HA.out (by simp [attr_Name.j0])
  | succ kj1 =>
   have H:=HA.out
   clear HA
   simp only [attr_Name.j0] at H
   by_cases c9:x21_1 = true
   ·subst c9
    have H1:(some false) = some r:=by rw [if_pos rfl] at H;exact H
    clear H
    have H:=H1
    clear H1
    obtain rfl:=Option.some.inj H
    go_wp2
    go_ret
    exact ⟨by rfl,by repeat (first | exact Drawn0.refl _ | apply Drawn0.step)⟩
   ·replace c9:=Bool.eq_false_iff.mpr c9
    subst c9
    have H1:(attr_Name.l0 kj1 a0 (a0.size:Int) 0) = some r:=by rw [if_neg (show ¬ (false = true) by decide)] at H;exact H
    clear H
    have H:=H1
    clear H1
    have H':=Aside0.mk H
    clear H
    go_wp2
    go_loopg [24] kj1 (fun kq v24 w'=>∃ (x24_2:Int),v24 = .int .i64 x24_2 ∧ Aside0 (attr_Name.l0 kq a0 (a0.size:Int) x24_2 = some r) ∧ Aside0 (kq ≤ kj1) ∧ Drawn0 w w')
    case atStart=>exact ⟨(0),(by rfl),H',⟨Nat.le_refl _⟩,by repeat (first | exact Drawn0.refl _ | apply Drawn0.step)⟩
    case round =>
     clear H'
     obtain ⟨x24_2,rfl,HA,HK2,⟨m2,rfl⟩⟩:=hrel
     cases gk with
     | zero=>exact absurd HA.out (by simp [attr_Name.l0])
     | succ k2 =>
      have H:=HA.out
      clear HA
      simp only [attr_Name.l0] at H
      by_cases c10:x24_2 < (a0.size:Int)
      ·rw [if_pos c10] at H
       have c10b0:decide (x24_2 < (a0.size:Int)) = true:=decide_eq_true c10
       clear c10
       by_cases c11:0 ≤ x24_2
       ·rw [if_pos c11] at H
        have c11b0:decide (0 ≤ x24_2) = true:=decide_eq_true c11
        clear c11
        by_cases c12:x24_2 < (a0.size:Int)
        ·rw [if_pos c12] at H
         have c12b0:decide (x24_2 < (a0.size:Int)) = true:=decide_eq_true c12
         clear c12
         by_cases c14:(bt a0 x24_2) < 97
         ·rw [if_pos c14] at H
          have c14b0:decide ((bt a0 x24_2) < 97) = true:=decide_eq_true c14
          clear c14
          by_cases c15:(bt a0 x24_2) < 48
          ·rw [if_pos c15] at H
           have c15b0:decide ((bt a0 x24_2) < 48) = true:=decide_eq_true c15
           clear c15
           by_cases c16:(bt a0 x24_2) = 46
           ·rw [if_pos c16] at H
            have c16b0:((bt a0 x24_2) == 46) = true:=beq_iff_eq.mpr c16
            have c16b1:((bt a0 x24_2) != 46) = false:=bne_eq_false_iff_eq.mpr c16
            clear c16
            have H':=Aside0.mk H
            clear H
            have p13:0 ≤ (x24_2:Int):=of_decide_eq_true (by assumption)
            have q13:x24_2 < (a0.size:Int):=of_decide_eq_true (by assumption)
            have hx13:=bt_at a0 x24_2
            replace p13:=eq_true p13
            replace q13:=eq_true q13
            go_wp2
            go_roundg k2
            case measure=>have:=HJ1.out;have:=HK2.out;omega
            case rel=>exact ⟨(wrap64 (x24_2 + 1)),(by rfl),H',⟨by have:=HJ1.out;have:=HK2.out;omega⟩,by repeat (first | exact Drawn0.refl _ | apply Drawn0.step)⟩
           ·rw [if_neg c16] at H
            have c16b0:((bt a0 x24_2) == 46) = false:=beq_eq_false_iff_ne.mpr c16
            have c16b1:((bt a0 x24_2) != 46) = true:=bne_iff_ne.mpr c16
            by_cases c17:(bt a0 x24_2) = 45
            ·rw [if_pos c17] at H
             have c17b0:((bt a0 x24_2) == 45) = true:=beq_iff_eq.mpr c17
             have c17b1:((bt a0 x24_2) != 45) = false:=bne_eq_false_iff_eq.mpr c17
             clear c17
             have H':=Aside0.mk H
             clear H
             have p13:0 ≤ (x24_2:Int):=of_decide_eq_true (by assumption)
             have q13:x24_2 < (a0.size:Int):=of_decide_eq_true (by assumption)
             have hx13:=bt_at a0 x24_2
             replace p13:=eq_true p13
             replace q13:=eq_true q13
             go_wp2
             go_roundg k2
             case measure=>have:=HJ1.out;have:=HK2.out;omega
             case rel=>exact ⟨(wrap64 (x24_2 + 1)),(by rfl),H',⟨by have:=HJ1.out;have:=HK2.out;omega⟩,by repeat (first | exact Drawn0.refl _ | apply Drawn0.step)⟩
            ·rw [if_neg c17] at H
             have c17b0:((bt a0 x24_2) == 45) = false:=beq_eq_false_iff_ne.mpr c17
             have c17b1:((bt a0 x24_2) != 45) = true:=bne_iff_ne.mpr c17
             obtain rfl:=Option.some.inj H
             have p13:0 ≤ (x24_2:Int):=of_decide_eq_true (by assumption)
             have q13:x24_2 < (a0.size:Int):=of_decide_eq_true (by assumption)
             have hx13:=bt_at a0 x24_2
             replace p13:=eq_true p13
             replace q13:=eq_true q13
             go_wp2
             go_ret
             exact ⟨by rfl,by repeat (first | exact Drawn0.refl _ | apply Drawn0.step)⟩
          ·rw [if_neg c15] at H
           have c15b0:decide ((bt a0 x24_2) < 48) = false:=decide_eq_false c15
           clear c15
           by_cases c18:(bt a0 x24_2) > 57
           ·rw [if_pos c18] at H
            have c18b0:decide (57 < (bt a0 x24_2)) = true:=decide_eq_true c18
            clear c18
            by_cases c19:(bt a0 x24_2) = 46
            ·rw [if_pos c19] at H
             have c19b0:((bt a0 x24_2) == 46) = true:=beq_iff_eq.mpr c19
             have c19b1:((bt a0 x24_2) != 46) = false:=bne_eq_false_iff_eq.mpr c19
             clear c19
             have H':=Aside0.mk H
             clear H
             have p13:0 ≤ (x24_2:Int):=of_decide_eq_true (by assumption)
             have q13:x24_2 < (a0.size:Int):=of_decide_eq_true (by assumption)
             have hx13:=bt_at a0 x24_2
             replace p13:=eq_true p13
             replace q13:=eq_true q13
             go_wp2
             go_roundg k2
             case measure=>have:=HJ1.out;have:=HK2.out;omega
             case rel=>exact ⟨(wrap64 (x24_2 + 1)),(by rfl),H',⟨by have:=HJ1.out;have:=HK2.out;omega⟩,by repeat (first | exact Drawn0.refl _ | apply Drawn0.step)⟩
            ·rw [if_neg c19] at H
             have c19b0:((bt a0 x24_2) == 46) = false:=beq_eq_false_iff_ne.mpr c19
             have c19b1:((bt a0 x24_2) != 46) = true:=bne_iff_ne.mpr c19
             by_cases c20:(bt a0 x24_2) = 45
             ·rw [if_pos c20] at H
              have c20b0:((bt a0 x24_2) == 45) = true:=beq_iff_eq.mpr c20
              have c20b1:((bt a0 x24_2) != 45) = false:=bne_eq_false_iff_eq.mpr c20
              clear c20
              have H':=Aside0.mk H
              clear H
              have p13:0 ≤ (x24_2:Int):=of_decide_eq_true (by assumption)
              have q13:x24_2 < (a0.size:Int):=of_decide_eq_true (by assumption)
              have hx13:=bt_at a0 x24_2
              replace p13:=eq_true p13
              replace q13:=eq_true q13
              go_wp2
              go_roundg k2
              case measure=>have:=HJ1.out;have:=HK2.out;omega
              case rel=>exact ⟨(wrap64 (x24_2 + 1)),(by rfl),H',⟨by have:=HJ1.out;have:=HK2.out;omega⟩,by repeat (first | exact Drawn0.refl _ | apply Drawn0.step)⟩
             ·rw [if_neg c20] at H
              have c20b0:((bt a0 x24_2) == 45) = false:=beq_eq_false_iff_ne.mpr c20
              have c20b1:((bt a0 x24_2) != 45) = true:=bne_iff_ne.mpr c20
              obtain rfl:=Option.some.inj H
              have p13:0 ≤ (x24_2:Int):=of_decide_eq_true (by assumption)
              have q13:x24_2 < (a0.size:Int):=of_decide_eq_true (by assumption)
              have hx13:=bt_at a0 x24_2
              replace p13:=eq_true p13
              replace q13:=eq_true q13
              go_wp2
              go_ret
              exact ⟨by rfl,by repeat (first | exact Drawn0.refl _ | apply Drawn0.step)⟩
           ·rw [if_neg c18] at H
            have c18b0:decide (57 < (bt a0 x24_2)) = false:=decide_eq_false c18
            clear c18
            have H':=Aside0.mk H
            clear H
            have p13:0 ≤ (x24_2:Int):=of_decide_eq_true (by assumption)
            have q13:x24_2 < (a0.size:Int):=of_decide_eq_true (by assumption)
            have hx13:=bt_at a0 x24_2
            replace p13:=eq_true p13
            replace q13:=eq_true q13
            go_wp2
            go_roundg k2
            case measure=>have:=HJ1.out;have:=HK2.out;omega
            case rel=>exact ⟨(wrap64 (x24_2 + 1)),(by rfl),H',⟨by have:=HJ1.out;have:=HK2.out;omega⟩,by repeat (first | exact Drawn0.refl _ | apply Drawn0.step)⟩
         ·rw [if_neg c14] at H
          have c14b0:decide ((bt a0 x24_2) < 97) = false:=decide_eq_false c14
          clear c14
          by_cases c21:(bt a0 x24_2) > 122
          ·rw [if_pos c21] at H
           have c21b0:decide (122 < (bt a0 x24_2)) = true:=decide_eq_true c21
           clear c21
           by_cases c22:(bt a0 x24_2) < 48
           ·rw [if_pos c22] at H
            have c22b0:decide ((bt a0 x24_2) < 48) = true:=decide_eq_true c22
            clear c22
            by_cases c23:(bt a0 x24_2) = 46
            ·rw [if_pos c23] at H
             have c23b0:((bt a0 x24_2) == 46) = true:=beq_iff_eq.mpr c23
             have c23b1:((bt a0 x24_2) != 46) = false:=bne_eq_false_iff_eq.mpr c23
             clear c23
             have H':=Aside0.mk H
             clear H
             have p13:0 ≤ (x24_2:Int):=of_decide_eq_true (by assumption)
             have q13:x24_2 < (a0.size:Int):=of_decide_eq_true (by assumption)
             have hx13:=bt_at a0 x24_2
             replace p13:=eq_true p13
             replace q13:=eq_true q13
             go_wp2
             go_roundg k2
             case measure=>have:=HJ1.out;have:=HK2.out;omega
             case rel=>exact ⟨(wrap64 (x24_2 + 1)),(by rfl),H',⟨by have:=HJ1.out;have:=HK2.out;omega⟩,by repeat (first | exact Drawn0.refl _ | apply Drawn0.step)⟩
            ·rw [if_neg c23] at H
             have c23b0:((bt a0 x24_2) == 46) = false:=beq_eq_false_iff_ne.mpr c23
             have c23b1:((bt a0 x24_2) != 46) = true:=bne_iff_ne.mpr c23
             by_cases c24:(bt a0 x24_2) = 45
             ·rw [if_pos c24] at H
              have c24b0:((bt a0 x24_2) == 45) = true:=beq_iff_eq.mpr c24
              have c24b1:((bt a0 x24_2) != 45) = false:=bne_eq_false_iff_eq.mpr c24
              clear c24
              have H':=Aside0.mk H
              clear H
              have p13:0 ≤ (x24_2:Int):=of_decide_eq_true (by assumption)
              have q13:x24_2 < (a0.size:Int):=of_decide_eq_true (by assumption)
              have hx13:=bt_at a0 x24_2
              replace p13:=eq_true p13
              replace q13:=eq_true q13
              go_wp2
              go_roundg k2
              case measure=>have:=HJ1.out;have:=HK2.out;omega
              case rel=>exact ⟨(wrap64 (x24_2 + 1)),(by rfl),H',⟨by have:=HJ1.out;have:=HK2.out;omega⟩,by repeat (first | exact Drawn0.refl _ | apply Drawn0.step)⟩
             ·rw [if_neg c24] at H
              have c24b0:((bt a0 x24_2) == 45) = false:=beq_eq_false_iff_ne.mpr c24
              have c24b1:((bt a0 x24_2) != 45) = true:=bne_iff_ne.mpr c24
              obtain rfl:=Option.some.inj H
              have p13:0 ≤ (x24_2:Int):=of_decide_eq_true (by assumption)
              have q13:x24_2 < (a0.size:Int):=of_decide_eq_true (by assumption)
              have hx13:=bt_at a0 x24_2
              replace p13:=eq_true p13
              replace q13:=eq_true q13
              go_wp2
              go_ret
              exact ⟨by rfl,by repeat (first | exact Drawn0.refl _ | apply Drawn0.step)⟩
           ·rw [if_neg c22] at H
            have c22b0:decide ((bt a0 x24_2) < 48) = false:=decide_eq_false c22
            clear c22
            by_cases c25:(bt a0 x24_2) > 57
            ·rw [if_pos c25] at H
             have c25b0:decide (57 < (bt a0 x24_2)) = true:=decide_eq_true c25
             clear c25
             by_cases c26:(bt a0 x24_2) = 46
             ·rw [if_pos c26] at H
              have c26b0:((bt a0 x24_2) == 46) = true:=beq_iff_eq.mpr c26
              have c26b1:((bt a0 x24_2) != 46) = false:=bne_eq_false_iff_eq.mpr c26
              clear c26
              have H':=Aside0.mk H
              clear H
              have p13:0 ≤ (x24_2:Int):=of_decide_eq_true (by assumption)
              have q13:x24_2 < (a0.size:Int):=of_decide_eq_true (by assumption)
              have hx13:=bt_at a0 x24_2
              replace p13:=eq_true p13
              replace q13:=eq_true q13
              go_wp2
              go_roundg k2
              case measure=>have:=HJ1.out;have:=HK2.out;omega
              case rel=>exact ⟨(wrap64 (x24_2 + 1)),(by rfl),H',⟨by have:=HJ1.out;have:=HK2.out;omega⟩,by repeat (first | exact Drawn0.refl _ | apply Drawn0.step)⟩
             ·rw [if_neg c26] at H
              have c26b0:((bt a0 x24_2) == 46) = false:=beq_eq_false_iff_ne.mpr c26
              have c26b1:((bt a0 x24_2) != 46) = true:=bne_iff_ne.mpr c26
              by_cases c27:(bt a0 x24_2) = 45
              ·rw [if_pos c27] at H
               have c27b0:((bt a0 x24_2) == 45) = true:=beq_iff_eq.mpr c27
               have c27b1:((bt a0 x24_2) != 45) = false:=bne_eq_false_iff_eq.mpr c27
               clear c27
               have H':=Aside0.mk H
               clear H
               have p13:0 ≤ (x24_2:Int):=of_decide_eq_true (by assumption)
               have q13:x24_2 < (a0.size:Int):=of_decide_eq_true (by assumption)
               have hx13:=bt_at a0 x24_2
               replace p13:=eq_true p13
               replace q13:=eq_true q13
               go_wp2
               go_roundg k2
               case measure=>have:=HJ1.out;have:=HK2.out;omega
               case rel=>exact ⟨(wrap64 (x24_2 + 1)),(by rfl),H',⟨by have:=HJ1.out;have:=HK2.out;omega⟩,by repeat (first | exact Drawn0.refl _ | apply Drawn0.step)⟩
              ·rw [if_neg c27] at H
               have c27b0:((bt a0 x24_2) == 45) = false:=beq_eq_false_iff_ne.mpr c27
               have c27b1:((bt a0 x24_2) != 45) = true:=bne_iff_ne.mpr c27
               obtain rfl:=Option.some.inj H
               have p13:0 ≤ (x24_2:Int):=of_decide_eq_true (by assumption)
               have q13:x24_2 < (a0.size:Int):=of_decide_eq_true (by assumption)
               have hx13:=bt_at a0 x24_2
               replace p13:=eq_true p13
               replace q13:=eq_true q13
               go_wp2
               go_ret
               exact ⟨by rfl,by repeat (first | exact Drawn0.refl _ | apply Drawn0.step)⟩
            ·rw [if_neg c25] at H
             have c25b0:decide (57 < (bt a0 x24_2)) = false:=decide_eq_false c25
             clear c25
             have H':=Aside0.mk H
             clear H
             have p13:0 ≤ (x24_2:Int):=of_decide_eq_true (by assumption)
             have q13:x24_2 < (a0.size:Int):=of_decide_eq_true (by assumption)
             have hx13:=bt_at a0 x24_2
             replace p13:=eq_true p13
             replace q13:=eq_true q13
             go_wp2
             go_roundg k2
             case measure=>have:=HJ1.out;have:=HK2.out;omega
             case rel=>exact ⟨(wrap64 (x24_2 + 1)),(by rfl),H',⟨by have:=HJ1.out;have:=HK2.out;omega⟩,by repeat (first | exact Drawn0.refl _ | apply Drawn0.step)⟩
          ·rw [if_neg c21] at H
           have c21b0:decide (122 < (bt a0 x24_2)) = false:=decide_eq_false c21
           clear c21
           have H':=Aside0.mk H
           clear H
           have p13:0 ≤ (x24_2:Int):=of_decide_eq_true (by assumption)
           have q13:x24_2 < (a0.size:Int):=of_decide_eq_true (by assumption)
           have hx13:=bt_at a0 x24_2
           replace p13:=eq_true p13
           replace q13:=eq_true q13
           go_wp2
           go_roundg k2
           case measure=>have:=HJ1.out;have:=HK2.out;omega
           case rel=>exact ⟨(wrap64 (x24_2 + 1)),(by rfl),H',⟨by have:=HJ1.out;have:=HK2.out;omega⟩,by repeat (first | exact Drawn0.refl _ | apply Drawn0.step)⟩
        ·rw [if_neg c12] at H
         exact absurd H (by simp)
       ·rw [if_neg c11] at H
        exact absurd H (by simp)
      ·rw [if_neg c10] at H
       have c10b0:decide (x24_2 < (a0.size:Int)) = false:=decide_eq_false c10
       clear c10
       obtain rfl:=Option.some.inj H
       go_wp2
       go_ret
       exact ⟨by rfl,by repeat (first | exact Drawn0.refl _ | apply Drawn0.step)⟩
mutual
def attr_Value.j0:Nat → ByteArray → Bool → Option (Bool)
 | 0,_,_=>none
 | k + 1,x0,x10=>if x10 = true then (some false) else (attr_Value.l0 k x0 (x0.size:Int) 0)
def attr_Value.l0:Nat → ByteArray → Int → Int → Option (Bool)
 | 0,_,_,_=>none
 | k + 1,x0,x12,x13=>if x13 < x12 then (if 0 ≤ x13 then (if x13 < (x0.size:Int) then (if (bt x0 x13) < 32 then (some false) else (if (bt x0 x13) > 126 then (some false) else (attr_Value.l0 k x0 x12 (wrap64 (x13 + 1))))) else (none)) else (none)) else (some true)
end
def attr_Value.f (k:Nat) (a0:ByteArray):Option (Bool):=if a0.toList = ([]:List UInt8) then (attr_Value.j0 k a0 true) else (attr_Value.j0 k a0 (decide ((a0.size:Int) > 200)))
theorem attr_Value.mono_l:∀ k,(∀ y0 y1,LeO (attr_Value.j0 k y0 y1) (attr_Value.j0 (k + 1) y0 y1)) ∧ (∀ y0 y1 y2,LeO (attr_Value.l0 k y0 y1 y2) (attr_Value.l0 (k + 1) y0 y1 y2))
 | 0=>⟨fun _ _ r h=>by simp [attr_Value.j0] at h,fun _ _ _ r h=>by simp [attr_Value.l0] at h⟩
 | k + 1=>by
  obtain ⟨ih0,ih1⟩:=attr_Value.mono_l k
  refine ⟨?_,?_⟩
  ·intro y0 y1
   unfold attr_Value.j0
   repeat' first | (with_reducible exact ih1 _ _ _) | (with_reducible exact LeO.refl _) | (with_reducible refine LeO.ite ?_ ?_)
  ·intro y0 y1 y2
   unfold attr_Value.l0
   repeat' first | (with_reducible exact ih1 _ _ _) | (with_reducible exact LeO.refl _) | (with_reducible refine LeO.ite ?_ ?_)
theorem attr_Value.mono:∀ a0 k,LeO (attr_Value.f k a0) (attr_Value.f (k + 1) a0):=by
 intro a0 k
 obtain ⟨ih0,ih1⟩:=attr_Value.mono_l k
 unfold attr_Value.f
 repeat' first | (with_reducible exact ih0 _ _) | (with_reducible refine LeO.ite ?_ ?_)
set_option maxHeartbeats 8000000 in
set_option maxRecDepth 100000 in
theorem attr_Value.calls (k:Nat) (a0:ByteArray) (r:Bool) (w:World) (h:attr_Value.f k a0 = some r) :
 Calls Try.prog 141 #[.string a0] w fun e w'=>e = .returned (.bool r) ∧ Drawn0 w w':=by
 have H:(if a0.toList = ([]:List UInt8) then (attr_Value.j0 k a0 true) else (attr_Value.j0 k a0 (decide ((a0.size:Int) > 200)))) = some r:=h
 clear h
 have HC2:=Aside0.mk H
 clear H
 go_enter Try.func141,Try.ntmps141
 go_upto_region 1 with (fail)
 go_cut [10] (fun v10 wc=>∃ (kq:Nat) (x10_1:Bool),v10 = .bool x10_1 ∧ Aside0 (attr_Value.j0 kq a0 x10_1 = some r) ∧ Aside0 (kq ≤ k) ∧ Drawn0 w wc)
 case first =>
  have H:=HC2.out
  clear HC2
  by_cases c3:a0.toList = ([]:List UInt8)
  ·rw [if_pos c3] at H
   have c3b0:(a0.toList == ([]:List UInt8)) = true:=beq_iff_eq.mpr c3
   have c3b1:(a0.toList != ([]:List UInt8)) = false:=bne_eq_false_iff_eq.mpr c3
   clear c3
   (skip)
   have H':=Aside0.mk H
   clear H
   go_wp2
   go_meet
   case rel=>exact ⟨_,(true),(by rfl),H',⟨by omega⟩,by repeat (exact Drawn0.refl _)⟩
  ·rw [if_neg c3] at H
   have c3b0:(a0.toList == ([]:List UInt8)) = false:=beq_eq_false_iff_ne.mpr c3
   have c3b1:(a0.toList != ([]:List UInt8)) = true:=bne_iff_ne.mpr c3
   (skip)
   have H':=Aside0.mk H
   clear H
   go_wp2
   go_meet
   case rel=>exact ⟨_,(decide ((a0.size:Int) > 200)),(by rfl),H',⟨by omega⟩,by repeat (exact Drawn0.refl _)⟩
 case rest =>
  clear HC2
  obtain ⟨kq,x10_1,rfl,HA,HJ1,⟨mc1,rfl⟩⟩:=hcut
  cases kq with
  | zero=>exact absurd HA.out (by simp [attr_Value.j0])
  | succ kj1 =>
   have H:=HA.out
   clear HA
   simp only [attr_Value.j0] at H
   by_cases c4:x10_1 = true
   ·subst c4
    have H1:(some false) = some r:=by rw [if_pos rfl] at H;exact H
    clear H
    have H:=H1
    clear H1
    obtain rfl:=Option.some.inj H
    go_wp2
    go_ret
    exact ⟨by rfl,by repeat (first | exact Drawn0.refl _ | apply Drawn0.step)⟩
   ·replace c4:=Bool.eq_false_iff.mpr c4
    subst c4
    have H1:(attr_Value.l0 kj1 a0 (a0.size:Int) 0) = some r:=by rw [if_neg (show ¬ (false = true) by decide)] at H;exact H
    clear H
    have H:=H1
    clear H1
    have H':=Aside0.mk H
    clear H
    go_wp2
    go_loopg [13] kj1 (fun kq v13 w'=>∃ (x13_2:Int),v13 = .int .i64 x13_2 ∧ Aside0 (attr_Value.l0 kq a0 (a0.size:Int) x13_2 = some r) ∧ Aside0 (kq ≤ kj1) ∧ Drawn0 w w')
    case atStart=>exact ⟨(0),(by rfl),H',⟨Nat.le_refl _⟩,by repeat (first | exact Drawn0.refl _ | apply Drawn0.step)⟩
    case round =>
     clear H'
     obtain ⟨x13_2,rfl,HA,HK2,⟨m2,rfl⟩⟩:=hrel
     cases gk with
     | zero=>exact absurd HA.out (by simp [attr_Value.l0])
     | succ k2 =>
      have H:=HA.out
      clear HA
      simp only [attr_Value.l0] at H
      by_cases c5:x13_2 < (a0.size:Int)
      ·rw [if_pos c5] at H
       have c5b0:decide (x13_2 < (a0.size:Int)) = true:=decide_eq_true c5
       clear c5
       by_cases c6:0 ≤ x13_2
       ·rw [if_pos c6] at H
        have c6b0:decide (0 ≤ x13_2) = true:=decide_eq_true c6
        clear c6
        by_cases c7:x13_2 < (a0.size:Int)
        ·rw [if_pos c7] at H
         have c7b0:decide (x13_2 < (a0.size:Int)) = true:=decide_eq_true c7
         clear c7
         by_cases c9:(bt a0 x13_2) < 32
         ·rw [if_pos c9] at H
          have c9b0:decide ((bt a0 x13_2) < 32) = true:=decide_eq_true c9
          clear c9
          obtain rfl:=Option.some.inj H
          have p8:0 ≤ (x13_2:Int):=of_decide_eq_true (by assumption)
          have q8:x13_2 < (a0.size:Int):=of_decide_eq_true (by assumption)
          have hx8:=bt_at a0 x13_2
          replace p8:=eq_true p8
          replace q8:=eq_true q8
          go_wp2
          go_ret
          exact ⟨by rfl,by repeat (first | exact Drawn0.refl _ | apply Drawn0.step)⟩
         ·rw [if_neg c9] at H
          have c9b0:decide ((bt a0 x13_2) < 32) = false:=decide_eq_false c9
          clear c9
          by_cases c11:(bt a0 x13_2) > 126
          ·rw [if_pos c11] at H
           have c11b0:decide (126 < (bt a0 x13_2)) = true:=decide_eq_true c11
           clear c11
           obtain rfl:=Option.some.inj H
           have p8:0 ≤ (x13_2:Int):=of_decide_eq_true (by assumption)
           have q8:x13_2 < (a0.size:Int):=of_decide_eq_true (by assumption)
           have hx8:=bt_at a0 x13_2
           replace p8:=eq_true p8
           replace q8:=eq_true q8
           have p10:0 ≤ (x13_2:Int):=of_decide_eq_true (by assumption)
           have q10:x13_2 < (a0.size:Int):=of_decide_eq_true (by assumption)
           have hx10:=bt_at a0 x13_2
           replace p10:=eq_true p10
           replace q10:=eq_true q10
           go_wp2
           go_ret
           exact ⟨by rfl,by repeat (first | exact Drawn0.refl _ | apply Drawn0.step)⟩
          ·rw [if_neg c11] at H
           have c11b0:decide (126 < (bt a0 x13_2)) = false:=decide_eq_false c11
           clear c11
           have H':=Aside0.mk H
           clear H
           have p8:0 ≤ (x13_2:Int):=of_decide_eq_true (by assumption)
           have q8:x13_2 < (a0.size:Int):=of_decide_eq_true (by assumption)
           have hx8:=bt_at a0 x13_2
           replace p8:=eq_true p8
           replace q8:=eq_true q8
           have p10:0 ≤ (x13_2:Int):=of_decide_eq_true (by assumption)
           have q10:x13_2 < (a0.size:Int):=of_decide_eq_true (by assumption)
           have hx10:=bt_at a0 x13_2
           replace p10:=eq_true p10
           replace q10:=eq_true q10
           go_wp2
           go_roundg k2
           case measure=>have:=HJ1.out;have:=HK2.out;omega
           case rel=>exact ⟨(wrap64 (x13_2 + 1)),(by rfl),H',⟨by have:=HJ1.out;have:=HK2.out;omega⟩,by repeat (first | exact Drawn0.refl _ | apply Drawn0.step)⟩
        ·rw [if_neg c7] at H
         exact absurd H (by simp)
       ·rw [if_neg c6] at H
        exact absurd H (by simp)
      ·rw [if_neg c5] at H
       have c5b0:decide (x13_2 < (a0.size:Int)) = false:=decide_eq_false c5
       clear c5
       obtain rfl:=Option.some.inj H
       go_wp2
       go_ret
       exact ⟨by rfl,by repeat (first | exact Drawn0.refl _ | apply Drawn0.step)⟩
end Go.Proofs.Ytlcodfjlbhjkbaa.PDelta
end
section
namespace Go.Proofs.Ytlcodfjlbhjkbaa.PDelta
open Go.RowKit Go.Proofs.YtlcodfjlbhjkbaaW.PrintWords Go.Proofs.YtlcodfjlbhjkbaaW.PrintLast Go.Proofs.YtlcodfjlbhjkbaaW.PrintMore
attribute [local go_sem] max2_int min2_int max_two min_two max_three min_three max_four min_four
attribute [local go_sem high] Go.Proofs.Ytlcodfjlbhjkbaa.Ord.leq_str Go.Proofs.Ytlcodfjlbhjkbaa.Ord.gtr_str Go.Proofs.Ytlcodfjlbhjkbaa.Ord.geq_str
attribute [local go_sem high] eqA91
end Go.Proofs.Ytlcodfjlbhjkbaa.PDelta
end
section
namespace Go.Proofs.Ytlcodfjlbhjkbaa.PDelta
open Go.RowKit Go.Proofs.YtlcodfjlbhjkbaaW.PrintWords Go.Proofs.YtlcodfjlbhjkbaaW.PrintLast Go.Proofs.YtlcodfjlbhjkbaaW.PrintMore
attribute [local go_sem] max2_int min2_int max_two min_two max_three min_three max_four min_four
attribute [local go_sem high] Go.Proofs.Ytlcodfjlbhjkbaa.Ord.leq_str Go.Proofs.Ytlcodfjlbhjkbaa.Ord.gtr_str Go.Proofs.Ytlcodfjlbhjkbaa.Ord.geq_str
end Go.Proofs.Ytlcodfjlbhjkbaa.PDelta
end
section
namespace Go.Proofs.Ytlcodfjlbhjkbaa.PDelta
open Go.RowKit Go.Proofs.YtlcodfjlbhjkbaaW.PrintWords Go.Proofs.YtlcodfjlbhjkbaaW.PrintLast Go.Proofs.YtlcodfjlbhjkbaaW.PrintMore
attribute [local go_sem high] eqA91
def OutIs (w0:World) (B:Nat) (out:List S91) (w:World):Prop :=
 ∃ v,w.heap[B]? = some (.cells #[v] 24 (0,0)) ∧ Kd.R k91 91 w w0.heap.size (fun _=>True) v out ∧ Below w0.heap.size w0 w
theorem OutIs.below {w0 w W:World} {B:Nat} {out:List S91} (h:OutIs w0 B out w) (hb:Below w.heap.size w W):OutIs w0 B out W:=by
 obtain ⟨v,h1,h2,h3⟩:=h
 exact ⟨v,blk_below h1 hb,Kd.R_below h2 hb,below_step h3 hb⟩
theorem own_cell {w0 W w1:World} {B:Nat} {v:Value} {out:List S91} (hv:W.heap[B]? = some (.cells #[v] 24 (0,0))) (hR:Kd.R k91 91 W w0.heap.size (fun _=>True) v out) (hg:W.grownBy w1 v.ownBlock) :
 w1.heap[B]? = some (.cells #[v] 24 (0,0)):=blk_grown hv hg (Kd.R_ne hR hv (by decide))
theorem own_stored {w0 w1:World} {B:Nat} {v v1:Value} {out':List S91} (h0:w0.heap.size ≤ B) (hv:w1.heap[B]? = some (.cells #[v] 24 (0,0))) (hR1:Kd.R k91 91 w1 w0.heap.size (fun _=>True) v1 out') (hB1:Below w0.heap.size w0 w1) :
 OutIs w0 B out' (w1.setCell ⟨B,0,none⟩ v1) :=
 ⟨v1,blk_put hv 0 v1 rfl,Kd.R_set hR1 hv (by decide) 0 v1,below_set hB1 h0⟩
def nil91:S91:=⟨⟨#[]⟩,⟨#[]⟩⟩
def rawV (out:List S91) (x y:S91):List S91:=if y.f0.toList = [] then out ++ [x] else if y.f1.toList = [] then out else out ++ [y]
set_option maxRecDepth 100000 in
set_option maxHeartbeats 2000000 in
theorem raw1a (w0:World) (B:Nat) (out:List S91) (x y:S91) (w:World) (h0:w0.heap.size ≤ B) (h:OutIs w0 B out w) (hl:(out.length + 1) * 32 ≤ 140737488355328) (h1:y.f0.toList = []) :
 Calls Try.prog 145 #[.agg #[.string x.f0,.string x.f1],.agg #[.string y.f0,.string y.f1],.pointer (some ⟨B,0,none⟩)] w fun e w'=>e = .returned (.tuple #[]) ∧ OutIs w0 B (out ++ [x]) w':=by
 obtain ⟨v,hv,hR,hb⟩:=h
 have hu91:=Try.underlying91
 have c1:(y.f0.toList == ([]:List UInt8)) = true:=beq_iff_eq.mpr h1
 clear h1
 have HR:=Aside0.mk hR
 have HB:=Aside0.mk hb
 have HV:=Aside0.mk hv
 have hc0:w.cell? ⟨B,0,none⟩ = some v:=(blk_cell hv 0).trans rfl
 have hB:B < w.heap.size:=blk_lt hv
 have HL:=Aside0.mk hl
 have H0:=Aside0.mk h0
 clear hR hb hv hl h0
 go_enter Try.func145,Try.ntmps145
 go_wp2_with (at_builtin;refine Kd.R_append k91 (w0:=w0) w0.heap.size rfl (.tmp 9) (.tmp 11) 24 91 (.agg #[.string ⟨#[]⟩,.string ⟨#[]⟩]) 32 rfl Try.underlying24 info91 rfl (by decide) (by decide) v out x _ (fun _=>True) (fun _=>False) rfl (by simp [Act.eval]) (k91_mkM _ _ _ _) (fun _ h=>h.elim) (fun _ _=>trivial) (Kd.R_below HR.out (below_alloc (below_alloc (Below.refl _ _) _) _)) (below_step HB.out (below_alloc (below_alloc (Below.refl _ _) _) _)) (below_size (below_step HB.out (below_alloc (below_alloc (Below.refl _ _) _) _))) HL.out ?_)
 intro v1 w1 hR1 hB1 hg hat
 obtain ⟨A1,n1,rfl⟩:=Kd.R_slice hR1
 have hv1:=own_cell (w0:=w0) (blk_below HV.out (below_alloc (below_alloc (Below.refl _ _) _) _)) (Kd.R_below HR.out (below_alloc (below_alloc (Below.refl _ _) _) _)) hg
 have hS:=Aside0.mk (own_stored H0.out hv1 hR1 hB1)
 have hc1:w1.cell? ⟨B,0,none⟩ = some v:=(blk_cell hv1 0).trans rfl
 have hf1:=blk_frozen hv1 0
 clear hv1 hR1 hB1 hg hat
 go_wp2
 go_end0
 exact ⟨rfl,by simpa using hS.out⟩
set_option maxRecDepth 100000 in
set_option maxHeartbeats 2000000 in
theorem raw1b (w0:World) (B:Nat) (out:List S91) (x y:S91) (w:World) (h0:w0.heap.size ≤ B) (h:OutIs w0 B out w) (hl:(out.length + 1) * 32 ≤ 140737488355328) (h1:¬ y.f0.toList = []) (h2:y.f1.toList = []) :
 Calls Try.prog 145 #[.agg #[.string x.f0,.string x.f1],.agg #[.string y.f0,.string y.f1],.pointer (some ⟨B,0,none⟩)] w fun e w'=>e = .returned (.tuple #[]) ∧ OutIs w0 B (out) w':=by
 obtain ⟨v,hv,hR,hb⟩:=h
 have hu91:=Try.underlying91
 have c1:(y.f0.toList == ([]:List UInt8)) = false:=beq_eq_false_iff_ne.mpr h1
 clear h1
 have c2:(!y.f1.toList.isEmpty) = false:=by rw [h2];rfl
 clear h2
 have HR:=Aside0.mk hR
 have HB:=Aside0.mk hb
 have HV:=Aside0.mk hv
 have hc0:w.cell? ⟨B,0,none⟩ = some v:=(blk_cell hv 0).trans rfl
 have hB:B < w.heap.size:=blk_lt hv
 have HL:=Aside0.mk hl
 have H0:=Aside0.mk h0
 clear hR hb hv hl h0
 go_enter Try.func145,Try.ntmps145
 go_wp2
 go_end0
 exact ⟨rfl,v,blk_below HV.out (below_alloc (below_alloc (Below.refl _ _) _) _),Kd.R_below HR.out (below_alloc (below_alloc (Below.refl _ _) _) _),below_step HB.out (below_alloc (below_alloc (Below.refl _ _) _) _)⟩
set_option maxRecDepth 100000 in
set_option maxHeartbeats 2000000 in
theorem raw1c (w0:World) (B:Nat) (out:List S91) (x y:S91) (w:World) (h0:w0.heap.size ≤ B) (h:OutIs w0 B out w) (hl:(out.length + 1) * 32 ≤ 140737488355328) (h1:¬ y.f0.toList = []) (h2:¬ y.f1.toList = []) :
 Calls Try.prog 145 #[.agg #[.string x.f0,.string x.f1],.agg #[.string y.f0,.string y.f1],.pointer (some ⟨B,0,none⟩)] w fun e w'=>e = .returned (.tuple #[]) ∧ OutIs w0 B (out ++ [y]) w':=by
 obtain ⟨v,hv,hR,hb⟩:=h
 have hu91:=Try.underlying91
 have c1:(y.f0.toList == ([]:List UInt8)) = false:=beq_eq_false_iff_ne.mpr h1
 clear h1
 have c2:(!y.f1.toList.isEmpty) = true:=by simpa using h2
 clear h2
 have HR:=Aside0.mk hR
 have HB:=Aside0.mk hb
 have HV:=Aside0.mk hv
 have hc0:w.cell? ⟨B,0,none⟩ = some v:=(blk_cell hv 0).trans rfl
 have hB:B < w.heap.size:=blk_lt hv
 have HL:=Aside0.mk hl
 have H0:=Aside0.mk h0
 clear hR hb hv hl h0
 go_enter Try.func145,Try.ntmps145
 go_wp2_with (at_builtin;refine Kd.R_append k91 (w0:=w0) w0.heap.size rfl (.tmp 17) (.tmp 19) 24 91 (.agg #[.string ⟨#[]⟩,.string ⟨#[]⟩]) 32 rfl Try.underlying24 info91 rfl (by decide) (by decide) v out y _ (fun _=>True) (fun _=>False) rfl (by simp [Act.eval]) (k91_mkM _ _ _ _) (fun _ h=>h.elim) (fun _ _=>trivial) (Kd.R_below HR.out (below_alloc (below_alloc (Below.refl _ _) _) _)) (below_step HB.out (below_alloc (below_alloc (Below.refl _ _) _) _)) (below_size (below_step HB.out (below_alloc (below_alloc (Below.refl _ _) _) _))) HL.out ?_)
 intro v1 w1 hR1 hB1 hg hat
 obtain ⟨A1,n1,rfl⟩:=Kd.R_slice hR1
 have hv1:=own_cell (w0:=w0) (blk_below HV.out (below_alloc (below_alloc (Below.refl _ _) _) _)) (Kd.R_below HR.out (below_alloc (below_alloc (Below.refl _ _) _) _)) hg
 have hS:=Aside0.mk (own_stored H0.out hv1 hR1 hB1)
 have hc1:w1.cell? ⟨B,0,none⟩ = some v:=(blk_cell hv1 0).trans rfl
 have hf1:=blk_frozen hv1 0
 clear hv1 hR1 hB1 hg hat
 go_wp2
 go_end0
 exact ⟨rfl,by simpa using hS.out⟩
end Go.Proofs.Ytlcodfjlbhjkbaa.PDelta
end
section
namespace Go.Proofs.Ytlcodfjlbhjkbaa.PDelta
open Go.RowKit Go.Proofs.YtlcodfjlbhjkbaaW.PrintWords Go.Proofs.YtlcodfjlbhjkbaaW.PrintLast Go.Proofs.YtlcodfjlbhjkbaaW.PrintMore
abbrev ltS (x y:S91):Bool:=Op.bytesLess x.f0.toList y.f0.toList
def bothL (V:List S91 → S91 → S91 → List S91) (s:List S91):List S91 → List S91 → List S91
 | [],[]=>s
 | x :: a,[]=>bothL V (V s x z91) a []
 | [],y :: b=>bothL V (V s z91 y) [] b
 | x :: a,y :: b=>if ltS x y = true then bothL V (V s x z91) a (y :: b) else if ltS y x = true then bothL V (V s z91 y) (x :: a) b else bothL V (V s x y) a b
termination_by a b=>a.length + b.length
theorem drop_cons (l:List S91) (i:Nat) (h:i < l.length):l.drop i = rd_T91 l i :: l.drop (i + 1):=by
 rw [List.drop_eq_getElem_cons h]
 simp [rd_T91,List.getD_eq_getElem?_getD,List.getElem?_eq_getElem h]
structure BothAt (V:List S91 → S91 → S91 → List S91) (w0:World) (B:Nat) (a b r:List S91) (i j:Nat) (o:List S91) (w:World):Prop where
 ha:i ≤ a.length
 hb:j ≤ b.length
 out:OutIs w0 B o w
 eq:bothL V o (a.drop i) (b.drop j) = r
 le:(o.length + (a.length - i) + (b.length - j)) * 32 ≤ 140737488355328
section
variable {V:List S91 → S91 → S91 → List S91} {w0 w w':World} {B:Nat} {a b r o:List S91} {i j:Nat}
theorem BothAt.one (h:BothAt V w0 B a b r i j o w) (h1:i < a.length ∨ j < b.length):(o.length + 1) * 32 ≤ 140737488355328:=by
 have:=h.le
 have:=h.ha
 have:=h.hb
 omega
theorem BothAt.left (hV:∀ out x y,(V out x y).length ≤ out.length + 1) (h:BothAt V w0 B a b r i j o w) (h1:i < a.length) (h2:j = b.length ∨ j < b.length ∧ ltS (rd_T91 a i) (rd_T91 b j) = true) (hO:OutIs w0 B (V o (rd_T91 a i) nil91) w') :
 BothAt V w0 B a b r (i + 1) j (V o (rd_T91 a i) nil91) w':=by
 refine ⟨h1,h.hb,hO,?_,?_⟩
 ·rw [← h.eq,drop_cons a i h1]
  rcases h2 with h2 | ⟨h2,h3⟩
  ·rw [List.drop_eq_nil_of_le (by omega:b.length ≤ j)]
   conv=>rhs;rw [bothL.eq_def]
   rfl
  ·rw [drop_cons b j h2]
   conv=>rhs;rw [bothL]
   rw [if_pos h3]
   rfl
 ·have:=hV o (rd_T91 a i) nil91
  have:=h.le
  omega
theorem BothAt.right (hV:∀ out x y,(V out x y).length ≤ out.length + 1) (h:BothAt V w0 B a b r i j o w) (h1:j < b.length) (h2:i = a.length ∨ i < a.length ∧ ltS (rd_T91 a i) (rd_T91 b j) = false ∧ ltS (rd_T91 b j) (rd_T91 a i) = true) (hO:OutIs w0 B (V o nil91 (rd_T91 b j)) w') :
 BothAt V w0 B a b r i (j + 1) (V o nil91 (rd_T91 b j)) w':=by
 refine ⟨h.ha,h1,hO,?_,?_⟩
 ·rw [← h.eq,drop_cons b j h1]
  rcases h2 with h2 | ⟨h2,h3,h4⟩
  ·rw [List.drop_eq_nil_of_le (by omega:a.length ≤ i)]
   conv=>rhs;rw [bothL.eq_def]
   rfl
  ·rw [drop_cons a i h2]
   conv=>rhs;rw [bothL]
   rw [if_neg (by rw [h3];decide),if_pos h4]
   rfl
 ·have:=hV o nil91 (rd_T91 b j)
  have:=h.le
  omega
theorem BothAt.mid (hV:∀ out x y,(V out x y).length ≤ out.length + 1) (h:BothAt V w0 B a b r i j o w) (h1:i < a.length) (h2:j < b.length) (h3:ltS (rd_T91 a i) (rd_T91 b j) = false) (h4:ltS (rd_T91 b j) (rd_T91 a i) = false) (hO:OutIs w0 B (V o (rd_T91 a i) (rd_T91 b j)) w') :
 BothAt V w0 B a b r (i + 1) (j + 1) (V o (rd_T91 a i) (rd_T91 b j)) w':=by
 refine ⟨h1,h2,hO,?_,?_⟩
 ·rw [← h.eq,drop_cons a i h1,drop_cons b j h2]
  conv=>rhs;rw [bothL]
  rw [if_neg (by rw [h3];decide),if_neg (by rw [h4];decide)]
 ·have:=hV o (rd_T91 a i) (rd_T91 b j)
  have:=h.le
  omega
theorem BothAt.done (h:BothAt V w0 B a b r i j o w) (h1:¬ i < a.length) (h2:¬ j < b.length):OutIs w0 B r w:=by
 have e:=h.eq
 rw [List.drop_eq_nil_of_le (by omega),List.drop_eq_nil_of_le (by omega),bothL] at e
 rw [← e]
 exact h.out
end
set_option maxRecDepth 100000 in
set_option maxHeartbeats 8000000 in
theorem both_calls (g:Nat) (hent:∀ (args:Array Value) (w:World),(callFunc g args).run Try.prog w = .ok (.enter g args) w) (V:List S91 → S91 → S91 → List S91)
 (hcl:∀ (w0:World) (B:Nat) (out:List S91) (x y:S91) (w:World),w0.heap.size ≤ B → OutIs w0 B out w → (out.length + 1) * 32 ≤ 140737488355328 →
  Calls Try.prog g #[.agg #[.string x.f0,.string x.f1],.agg #[.string y.f0,.string y.f1],.pointer (some ⟨B,0,none⟩)] w fun e w'=>e = .returned (.tuple #[]) ∧ OutIs w0 B (V out x y) w')
 (hV:∀ out x y,(V out x y).length ≤ out.length + 1)
 (w0:World) (A0:Option Addr) (c0:Nat) (a:List S91) (A1:Option Addr) (c1:Nat) (b:List S91) (B:Nat) (w:World)
 (hr0:Kd.C k91 w0 A0 a.length a) (hr1:Kd.C k91 w0 A1 b.length b) (h0:w0.heap.size ≤ B) (h:OutIs w0 B [] w) (hl:(a.length + b.length) * 32 ≤ 140737488355328) :
 Calls Try.prog 120 #[.slice A0 a.length c0,.slice A1 b.length c1,.func (.func g) #[] #[.pointer (some ⟨B,0,none⟩)]] w fun e w'=>e = .returned (.tuple #[]) ∧ OutIs w0 B (bothL V [] a b) w':=by
 have hu91:=Try.underlying91
 obtain ⟨r,hr⟩:∃ r,r = bothL V [] a b:=⟨_,rfl⟩
 rw [← hr]
 have hs:Aside0 (BothAt V w0 B a b r 0 0 [] w):=⟨⟨Nat.zero_le _,Nat.zero_le _,h,by simpa using hr.symm,by simpa using hl⟩⟩
 have hla:a.length ≤ 4398046511104:=by omega
 have hlb:b.length ≤ 4398046511104:=by omega
 have HR0:=Aside0.mk hr0
 have HR1:=Aside0.mk hr1
 have H0:=Aside0.mk h0
 have HCL:=Aside0.mk hcl
 have HVV:=Aside0.mk hV
 clear hr0 hr1 hr h hl h0 hcl hV
 go_enter Try.func120,Try.ntmps120
 go_wp2
 go_loopg [6,7] (a.length + b.length) (fun m v6 v7 wr=>∃ (i j:Nat) (o:List S91),v6 = .int .i64 i ∧ v7 = .int .i64 j ∧ Aside0 (BothAt V w0 B a b r i j o wr) ∧ Aside0 (m = (a.length - i) + (b.length - j)))
 case atStart=>exact ⟨0,0,[],rfl,rfl,hs,⟨by simp⟩⟩
 case round =>
  clear hs
  obtain ⟨i,j,o,rfl,rfl,HS,HM⟩:=hrel
  obtain ⟨v,hv,hR,hbel⟩:=HS.out.out
  have HB:=Aside0.mk hbel
  clear hv hR hbel
  have hia:=HS.out.ha
  have hjb:=HS.out.hb
  by_cases c1:i < a.length
  ·have f1:decide ((i:Int) < (a.length:Int)) = true:=decide_eq_true (by omega)
   have f1':decide (i < a.length) = true:=decide_eq_true c1
   have f3:((i:Int) == (a.length:Int)) = false:=beq_eq_false_iff_ne.mpr (by omega)
   have f3':(i == a.length) = false:=beq_eq_false_iff_ne.mpr (by omega)
   obtain ⟨ad0,e0,hx0,hx1⟩:=at_T91 HR0.out (i:Int) (by omega) (by omega)
   cases e0
   replace hx0:=(HB.out.cell (World.block_lt_of_cell? w0 _ hx0)).trans hx0
   replace hx1:=(HB.out.cell (World.block_lt_of_cell? w0 _ hx1)).trans hx1
   simp only [Int.toNat_natCast] at hx0 hx1
   by_cases c2:j < b.length
   ·have f2:decide ((j:Int) < (b.length:Int)) = true:=decide_eq_true (by omega)
    have f2':decide (j < b.length) = true:=decide_eq_true c2
    have f4:((j:Int) == (b.length:Int)) = false:=beq_eq_false_iff_ne.mpr (by omega)
    have f4':(j == b.length) = false:=beq_eq_false_iff_ne.mpr (by omega)
    obtain ⟨ad1,e1,hy0,hy1⟩:=at_T91 HR1.out (j:Int) (by omega) (by omega)
    cases e1
    replace hy0:=(HB.out.cell (World.block_lt_of_cell? w0 _ hy0)).trans hy0
    replace hy1:=(HB.out.cell (World.block_lt_of_cell? w0 _ hy1)).trans hy1
    simp only [Int.toNat_natCast] at hy0 hy1
    cases l1:ltS (rd_T91 a i) (rd_T91 b j) with
    | true =>
     go_wp2
     go_quiet (fail)
     go_wp2_with (fail)
     refine (HCL.out w0 B o (rd_T91 a i) (nil91) _ H0.out (HS.out.out.below (pw_below_drewN (Below.refl _ _) _)) (HS.out.one (by omega))).mono ?_
     rintro e w' ⟨rfl,hO'⟩
     have HS':=Aside0.mk (BothAt.left HVV.out HS.out c1 (.inr ⟨c2,l1⟩) hO')
     have hm:(a.length - (i + 1)) + (b.length - j) < gk:=by have:=HM.out;omega
     clear hO' HS HB
     go_wp2
     go_roundg ((a.length - (i + 1)) + (b.length - j))
     case measure=>exact hm
     case rel=>exact ⟨(i + 1),j,_,by rfl,by rfl,HS',⟨rfl⟩⟩
    | false =>
     cases l2:ltS (rd_T91 b j) (rd_T91 a i) with
     | true =>
      go_wp2
      go_quiet (fail)
      go_wp2
      go_quiet (fail)
      go_wp2_with (fail)
      refine (HCL.out w0 B o (nil91) (rd_T91 b j) _ H0.out (HS.out.out.below (pw_below_drewN (Below.refl _ _) _)) (HS.out.one (by omega))).mono ?_
      rintro e w' ⟨rfl,hO'⟩
      have HS':=Aside0.mk (BothAt.right HVV.out HS.out c2 (.inr ⟨c1,l1,l2⟩) hO')
      have hm:(a.length - i) + (b.length - (j + 1)) < gk:=by have:=HM.out;omega
      clear hO' HS HB
      go_wp2
      go_roundg ((a.length - i) + (b.length - (j + 1)))
      case measure=>exact hm
      case rel=>exact ⟨i,(j + 1),_,by rfl,by rfl,HS',⟨rfl⟩⟩
     | false =>
      go_wp2
      go_quiet (fail)
      go_wp2
      go_quiet (fail)
      go_wp2
      refine wp_region_still_tail 9 (by kernel_rfl) (by kernel_rfl) ?_
      simp only [List.take_succ_cons,List.take_zero,List.drop_succ_cons,List.drop_zero]
      change wpStill _ _ (World.drew _) (fun a'=>wpList _ _ _ _ a' (World.drew _)) _ _
      repeat still_step
      refine wpStill_nil ?_
      go_wp2_with (fail)
      refine (HCL.out w0 B o (rd_T91 a i) (rd_T91 b j) _ H0.out (HS.out.out.below (pw_below_drewN (Below.refl _ _) _)) (HS.out.one (by omega))).mono ?_
      rintro e w' ⟨rfl,hO'⟩
      have HS':=Aside0.mk (BothAt.mid HVV.out HS.out c1 c2 l1 l2 hO')
      have hm:(a.length - (i + 1)) + (b.length - (j + 1)) < gk:=by have:=HM.out;omega
      clear hO' HS HB
      go_wp2
      go_roundg ((a.length - (i + 1)) + (b.length - (j + 1)))
      case measure=>exact hm
      case rel=>exact ⟨(i + 1),(j + 1),_,by rfl,by rfl,HS',⟨rfl⟩⟩
   ·obtain rfl:j = b.length:=by omega
    have f4:((b.length:Int) == (b.length:Int)) = true:=beq_iff_eq.mpr rfl
    have f4':(b.length == b.length) = true:=beq_iff_eq.mpr rfl
    go_wp2
    go_quiet (fail)
    go_wp2_with (fail)
    refine (HCL.out w0 B o (rd_T91 a i) (nil91) _ H0.out (HS.out.out.below (pw_below_drewN (Below.refl _ _) _)) (HS.out.one (by omega))).mono ?_
    rintro e w' ⟨rfl,hO'⟩
    have HS':=Aside0.mk (BothAt.left HVV.out HS.out c1 (.inl rfl) hO')
    have hm:(a.length - (i + 1)) + (b.length - b.length) < gk:=by have:=HM.out;omega
    clear hO' HS HB
    go_wp2
    go_roundg ((a.length - (i + 1)) + (b.length - b.length))
    case measure=>exact hm
    case rel=>exact ⟨(i + 1),b.length,_,by rfl,by rfl,HS',⟨rfl⟩⟩
  ·have f1:decide ((i:Int) < (a.length:Int)) = false:=decide_eq_false (by omega)
   have f1':decide (i < a.length) = false:=decide_eq_false c1
   obtain rfl:i = a.length:=by omega
   have f3:((a.length:Int) == (a.length:Int)) = true:=beq_iff_eq.mpr rfl
   have f3':(a.length == a.length) = true:=beq_iff_eq.mpr rfl
   by_cases c2:j < b.length
   ·have f2:decide ((j:Int) < (b.length:Int)) = true:=decide_eq_true (by omega)
    have f2':decide (j < b.length) = true:=decide_eq_true c2
    have f4:((j:Int) == (b.length:Int)) = false:=beq_eq_false_iff_ne.mpr (by omega)
    have f4':(j == b.length) = false:=beq_eq_false_iff_ne.mpr (by omega)
    obtain ⟨ad1,e1,hy0,hy1⟩:=at_T91 HR1.out (j:Int) (by omega) (by omega)
    cases e1
    replace hy0:=(HB.out.cell (World.block_lt_of_cell? w0 _ hy0)).trans hy0
    replace hy1:=(HB.out.cell (World.block_lt_of_cell? w0 _ hy1)).trans hy1
    simp only [Int.toNat_natCast] at hy0 hy1
    go_wp2
    go_quiet (fail)
    go_wp2
    go_quiet (fail)
    go_wp2_with (fail)
    refine (HCL.out w0 B o (nil91) (rd_T91 b j) _ H0.out (HS.out.out.below (pw_below_drewN (Below.refl _ _) _)) (HS.out.one (by omega))).mono ?_
    rintro e w' ⟨rfl,hO'⟩
    have HS':=Aside0.mk (BothAt.right HVV.out HS.out c2 (.inl rfl) hO')
    have hm:(a.length - a.length) + (b.length - (j + 1)) < gk:=by have:=HM.out;omega
    clear hO' HS HB
    go_wp2
    go_roundg ((a.length - a.length) + (b.length - (j + 1)))
    case measure=>exact hm
    case rel=>exact ⟨a.length,(j + 1),_,by rfl,by rfl,HS',⟨rfl⟩⟩
   ·have f2:decide ((j:Int) < (b.length:Int)) = false:=decide_eq_false (by omega)
    have f2':decide (j < b.length) = false:=decide_eq_false c2
    have HD:=Aside0.mk (HS.out.done c1 c2)
    go_wp2
    go_end0
    exact ⟨rfl,by exact HD.out⟩
theorem enters_any {g : Nat} {fn : Func} {c : Code} (hf : Try.prog.funcs[g]? = some fn) (hname : (fn.name == "runtime.NumGoroutine") = false) (hb : fn.body = some c) (args : Array Value) (w : World) :
 (callFunc g args).run Try.prog w = .ok (.enter g args) w:=by
 have h1 : fn.name ≠ "runtime.NumGoroutine" := by simpa using hname
 simp [callFunc,hf,h1,hb,mark]
theorem outis_made (w:World):OutIs w w.heap.size [] (w.alloc (.cells #[.slice none 0 0] 24)) :=
 ⟨.slice none 0 0,blk_new w _,Kd.R_nil _ _ _ _ _,below_alloc (Below.refl _ _) _⟩
theorem raw_any (w0:World) (B:Nat) (out:List S91) (x y:S91) (w:World) (h0:w0.heap.size ≤ B) (h:OutIs w0 B out w) (hl:(out.length + 1) * 32 ≤ 140737488355328) :
 Calls Try.prog 145 #[.agg #[.string x.f0,.string x.f1],.agg #[.string y.f0,.string y.f1],.pointer (some ⟨B,0,none⟩)] w fun e w'=>e = .returned (.tuple #[]) ∧ OutIs w0 B (rawV out x y) w':=by
 by_cases h1:y.f0.toList = []
 ·unfold rawV;rw [if_pos h1];exact raw1a w0 B out x y w h0 h hl h1
 ·by_cases h2:y.f1.toList = []
  ·unfold rawV;rw [if_neg h1,if_pos h2];exact raw1b w0 B out x y w h0 h hl h1 h2
  ·unfold rawV;rw [if_neg h1,if_neg h2];exact raw1c w0 B out x y w h0 h hl h1 h2
theorem rawV_len (out:List S91) (x y:S91):(rawV out x y).length ≤ out.length + 1:=by
 unfold rawV
 repeat (first | split | simp)
def attr_Raw.f (l0 l1:List S91):Option (List S91):=if (l0.length + l1.length) * 32 ≤ 140737488355328 then some (bothL rawV [] l0 l1) else none
set_option maxRecDepth 100000 in
set_option maxHeartbeats 4000000 in
theorem attr_Raw.calls (A0:Option Addr) (c0:Nat) (l0:List (S91)) (A1:Option Addr) (c1:Nat) (l1:List (S91)) (r:List (S91)) (w:World) (hr0:Kd.C k91 w A0 l0.length l0) (hc0:l0.length ≤ c0) (hr1:Kd.C k91 w A1 l1.length l1) (hc1:l1.length ≤ c1) (h:attr_Raw.f l0 l1 = some r) :
 Calls Try.prog 115 #[.slice A0 l0.length c0,.slice A1 l1.length c1] w fun e w'=>∃ v0_:Value,e = .returned (v0_) ∧ Kd.R k91 91 w' w.heap.size (fun _=>True) v0_ r ∧ Below w.heap.size w w':=by
 unfold attr_Raw.f at h
 have hl:(l0.length + l1.length) * 32 ≤ 140737488355328:=by
  by_cases hl:(l0.length + l1.length) * 32 ≤ 140737488355328
  ·exact hl
  ·rw [if_neg hl] at h;cases h
 rw [if_pos hl] at h
 have HC:=Aside0.mk (both_calls 145 (enters_any Try.func145 rfl rfl) rawV raw_any rawV_len w A0 c0 l0 A1 c1 l1 w.heap.size _ hr0 hr1 (Nat.le_refl _) (outis_made w) hl)
 have hmf:∀ (fn:Fn) (first cap:Array Value) (w:World),(Instr.makeFunc fn first cap).run Try.prog w = .ok (.func fn first cap) w:=fun _ _ _ _=>rfl
 have HR:=Aside0.mk (Option.some.inj h)
 clear hr0 hr1 hc0 hc1 hl h
 go_enter Try.func115,Try.ntmps115
 go_wp2_with (go_at_call 120;refine HC.out.mono ?_)
 rintro e w' ⟨rfl,v,hv,hR,hB⟩
 obtain ⟨A2,c2,hv2⟩:=Kd.R_slice hR
 have hc:w'.cell? ⟨w.heap.size,0,none⟩ = some v:=(blk_cell hv 0).trans rfl
 have hR':=Aside0.mk hR
 have hB':=Aside0.mk hB
 rw [hv2] at hc
 have HV:=Aside0.mk hv2
 clear hv hR hB hv2
 go_wp2
 go_ret
 exact ⟨v,by rw [HV.out];rfl,by rw [← HR.out];exact hR'.out,hB'.out⟩
end Go.Proofs.Ytlcodfjlbhjkbaa.PDelta
end
section
namespace Go.Proofs.Ytlcodfjlbhjkbaa.PDelta
open Go.RowKit Go.Proofs.YtlcodfjlbhjkbaaW.PrintWords Go.Proofs.YtlcodfjlbhjkbaaW.PrintLast Go.Proofs.YtlcodfjlbhjkbaaW.PrintMore
attribute [local go_sem] max2_int min2_int max_two min_two max_three min_three max_four min_four
attribute [local go_sem high] Go.Proofs.Ytlcodfjlbhjkbaa.Ord.leq_str Go.Proofs.Ytlcodfjlbhjkbaa.Ord.gtr_str Go.Proofs.Ytlcodfjlbhjkbaa.Ord.geq_str
end Go.Proofs.Ytlcodfjlbhjkbaa.PDelta
end
section
namespace Go.Proofs.Ytlcodfjlbhjkbaa.PDelta
open Go.RowKit Go.Proofs.YtlcodfjlbhjkbaaW.PrintWords Go.Proofs.YtlcodfjlbhjkbaaW.PrintLast Go.Proofs.YtlcodfjlbhjkbaaW.PrintMore
attribute [local go_sem] max2_int min2_int max_two min_two max_three min_three max_four min_four
attribute [local go_sem high] Go.Proofs.Ytlcodfjlbhjkbaa.Ord.leq_str Go.Proofs.Ytlcodfjlbhjkbaa.Ord.gtr_str Go.Proofs.Ytlcodfjlbhjkbaa.Ord.geq_str
attribute [local go_sem high] eqA91
end Go.Proofs.Ytlcodfjlbhjkbaa.PDelta
end
section
namespace Go.Proofs.Ytlcodfjlbhjkbaa.PDelta
open Go.RowKit Go.Proofs.YtlcodfjlbhjkbaaW.PrintWords Go.Proofs.YtlcodfjlbhjkbaaW.PrintLast Go.Proofs.YtlcodfjlbhjkbaaW.PrintMore
section
variable {ok:Nat → Prop} {w0 wI w w1:World} {g:Nat} {vI uI v u v1 u1:Value} {out out':List S95} {add add':List S26} {cut:Int}
end
section
variable {ok:Nat → Prop} {w0 wI w w1:World} {g:Nat} {vI uI v u v1 u1:Value} {out out':List S95} {add add':List S26} {cut:Int}
end
end Go.Proofs.Ytlcodfjlbhjkbaa.PDelta
end
section
namespace Go.Proofs.Ytlcodfjlbhjkbaa.PDelta
open Go.RowKit Go.Proofs.YtlcodfjlbhjkbaaW.PrintWords Go.Proofs.YtlcodfjlbhjkbaaW.PrintLast Go.Proofs.YtlcodfjlbhjkbaaW.PrintMore
open Go.RowKit Go.Proofs.YtlcodfjlbhjkbaaW.PrintWords Go.Proofs.YtlcodfjlbhjkbaaW.PrintLast Go.Proofs.YtlcodfjlbhjkbaaW.PrintMore
open Go.RowKit Go.Proofs.YtlcodfjlbhjkbaaW.PrintWords Go.Proofs.YtlcodfjlbhjkbaaW.PrintLast Go.Proofs.YtlcodfjlbhjkbaaW.PrintMore
end Go.Proofs.Ytlcodfjlbhjkbaa.PDelta
end
section
namespace Go.Proofs.Ytlcodfjlbhjkbaa.PDelta
open Go.RowKit Go.Proofs.YtlcodfjlbhjkbaaW.PrintWords Go.Proofs.YtlcodfjlbhjkbaaW.PrintLast Go.Proofs.YtlcodfjlbhjkbaaW.PrintMore
section
variable {w wr w1:World} {ga:Nat} {cs:Array Value} {out out':List S95} {adds adds':List S26} {v u v1 u1:Value}
end
section
variable {w wr w1:World} {ga gd n:Nat} {raw:List Int} {As As':List (List S26)} {Cs Cs':List Bool} {Ts Ts':List (List S91)} {cA cB cC vA vB vC u u1 v1 lv:Value} {al al':List S26} {l:List S91}
theorem DiceSt.block (h:DiceSt w gd raw n wr) (hb:w1.heap[gd]? = wr.heap[gd]?):DiceSt w gd raw n w1:=by
 obtain ⟨A,c,hk,hC,hc⟩:=h.ex
 exact ⟨A,c,hb.trans hk,hC,hc⟩
theorem DiceSt.typed (h:DiceSt w gd raw n wr):∃ cs,wr.heap[gd]? = some (.cells cs 79 (0,0)):=by
 obtain ⟨A,c,hk,hC,hc⟩:=h.ex
 exact ⟨_,hk⟩
theorem r_keep {α:Type} {d:Kd α} {e t:Nat} {base:Nat} {ok:Nat → Prop} {v:Value} {xs:List α} {cs:Array Value} {g:Nat} (h:d.R e wr base ok v xs) (hg:wr.heap[g]? = some (.cells cs t (0,0))) (ht:∀ q,q ∈ e :: d.E → q ≠ t) (hfr:∀ k,k < wr.heap.size → k ≠ g → w1.heap[k]? = wr.heap[k]?):d.R e w1 base ok v xs :=
 Kd.R_mono (Kd.R_step (Kd.R_types h hg ht) (fun k hk hlt=>hfr k hlt hk.2)) (fun _ hk=>hk.1)
end
end Go.Proofs.Ytlcodfjlbhjkbaa.PDelta
end
section
namespace Go.Proofs.Ytlcodfjlbhjkbaa.PDelta
open Go.RowKit Go.Proofs.YtlcodfjlbhjkbaaW.PrintWords Go.Proofs.YtlcodfjlbhjkbaaW.PrintLast Go.Proofs.YtlcodfjlbhjkbaaW.PrintMore
end Go.Proofs.Ytlcodfjlbhjkbaa.PDelta
end
section
namespace Go.Proofs.Ytlcodfjlbhjkbaa.PDelta
open Go.RowKit Go.Proofs.YtlcodfjlbhjkbaaW.PrintWords Go.Proofs.YtlcodfjlbhjkbaaW.PrintLast Go.Proofs.YtlcodfjlbhjkbaaW.PrintMore
section
variable {w wr w1:World} {g:Nat} {As As':List (List S26)} {Cs Cs':List Bool} {Ts Ts':List (List S91)} {cA cB cC vA vB vC v1:Value}
end
section
variable {w wr w1:World} {g gs:Nat} {As As':List (List S26)} {Cs Cs':List Bool} {Ts Ts':List (List S91)} {cA cB cC vA vB vC v1:Value} {x:S95} {A2 A3:Option Addr} {c2 c3:Nat}
end
section
variable {w wr w1:World} {g gs ba ca:Nat} {As:List (List S26)} {Cs:List Bool} {Ts:List (List S91)} {cA cB cC vA vB vC:Value} {x:S95} {A2 A3:Option Addr} {c2 c3:Nat}
end
section
variable {α:Type} {d:Kd α} {e base n ca ba:Nat} {wr w1:World} {ok okp:Nat → Prop} {xs:List α} {v:Value}
end
section
variable {w wr w1:World} {g:Nat} {As As':List (List S26)} {Cs Cs':List Bool} {Ts Ts':List (List S91)} {vA vB vC:Value}
end
section
variable {w wr w1:World} {g gs:Nat} {As:List (List S26)} {Cs:List Bool} {Ts:List (List S91)} {vA vB vC:Value} {x:S95} {A2 A3:Option Addr} {c2 c3:Nat}
end
end Go.Proofs.Ytlcodfjlbhjkbaa.PDelta
end
section
namespace Go.Proofs.Ytlcodfjlbhjkbaa.PDelta
open Go.RowKit Go.Proofs.YtlcodfjlbhjkbaaW.PrintWords Go.Proofs.YtlcodfjlbhjkbaaW.PrintLast Go.Proofs.YtlcodfjlbhjkbaaW.PrintMore
attribute [local go_sem] max2_int min2_int max_two min_two max_three min_three max_four min_four
attribute [local go_sem high] Go.Proofs.Ytlcodfjlbhjkbaa.Ord.leq_str Go.Proofs.Ytlcodfjlbhjkbaa.Ord.gtr_str Go.Proofs.Ytlcodfjlbhjkbaa.Ord.geq_str
theorem info5:(Try.prog.info? 5).map (fun i=>(i.zero,i.size,i.bytes)) = some (some (.int .u8 0),1,1):=by kernel_rfl
structure S128 where
 f0:Int
 f1:Int
 f2:Int
 f3:Int
 f4:Int
 f5:ByteArray
 f6:ByteArray
 f7:ByteArray
def z128:S128:=⟨(0:Int),(0:Int),(0:Int),(0:Int),(0:Int),(⟨#[]⟩:ByteArray),(⟨#[]⟩:ByteArray),(⟨#[]⟩:ByteArray)⟩
def k128:Kd S128:=Kd.iso (Kd.pair (Kd.int .i64) (Kd.pair (Kd.int .i64) (Kd.pair (Kd.int .i64) (Kd.pair (Kd.int .i64) (Kd.pair (Kd.int .i64) (Kd.pair Kd.string (Kd.pair Kd.string Kd.string))))))) (fun x:S128=>(x.f0,x.f1,x.f2,x.f3,x.f4,x.f5,x.f6,x.f7))
theorem k128_open {w:World} {x:S128} {cs:List Value} (h:k128.K w x cs):cs = [.int .i64 x.f0,.int .i64 x.f1,.int .i64 x.f2,.int .i64 x.f3,.int .i64 x.f4,.string x.f5,.string x.f6,.string x.f7]:=by
 obtain ⟨_,_,rfl,rfl,⟨_,_,rfl,rfl,⟨_,_,rfl,rfl,⟨_,_,rfl,rfl,⟨_,_,rfl,rfl,⟨_,_,rfl,rfl,⟨_,_,rfl,rfl,rfl⟩⟩⟩⟩⟩⟩⟩:=h
 exact rfl
theorem k128_mkM (w:World) (base:Nat) (ok:Nat → Prop) (x:S128) :k128.M w base ok x [.int .i64 x.f0,.int .i64 x.f1,.int .i64 x.f2,.int .i64 x.f3,.int .i64 x.f4,.string x.f5,.string x.f6,.string x.f7]:=⟨[.int .i64 x.f0],[.int .i64 x.f1,.int .i64 x.f2,.int .i64 x.f3,.int .i64 x.f4,.string x.f5,.string x.f6,.string x.f7],rfl,rfl,⟨[.int .i64 x.f1],[.int .i64 x.f2,.int .i64 x.f3,.int .i64 x.f4,.string x.f5,.string x.f6,.string x.f7],rfl,rfl,⟨[.int .i64 x.f2],[.int .i64 x.f3,.int .i64 x.f4,.string x.f5,.string x.f6,.string x.f7],rfl,rfl,⟨[.int .i64 x.f3],[.int .i64 x.f4,.string x.f5,.string x.f6,.string x.f7],rfl,rfl,⟨[.int .i64 x.f4],[.string x.f5,.string x.f6,.string x.f7],rfl,rfl,⟨[.string x.f5],[.string x.f6,.string x.f7],rfl,rfl,⟨[.string x.f6],[.string x.f7],rfl,rfl,rfl⟩⟩⟩⟩⟩⟩⟩
def rd_T128 (xs:List S128) (i:Int):S128:=xs.getD i.toNat z128
theorem at_T128 {w:World} {A:Option Addr} {n:Nat} {xs:List S128} (h:Kd.C k128 w A n xs) (i:Int) (h0:0 ≤ i) (h1:i < n):∃ ad ,A = some ad ∧ w.cell? (ad.add (i.toNat * 8)) = some (.int .i64 (rd_T128 xs i).f0) ∧ w.cell? ⟨(ad.add (i.toNat * 8)).block,(ad.add (i.toNat * 8)).off + 1,none⟩ = some (.int .i64 (rd_T128 xs i).f1) ∧ w.cell? ⟨(ad.add (i.toNat * 8)).block,(ad.add (i.toNat * 8)).off + 2,none⟩ = some (.int .i64 (rd_T128 xs i).f2) ∧ w.cell? ⟨(ad.add (i.toNat * 8)).block,(ad.add (i.toNat * 8)).off + 3,none⟩ = some (.int .i64 (rd_T128 xs i).f3) ∧ w.cell? ⟨(ad.add (i.toNat * 8)).block,(ad.add (i.toNat * 8)).off + 4,none⟩ = some (.int .i64 (rd_T128 xs i).f4) ∧ w.cell? ⟨(ad.add (i.toNat * 8)).block,(ad.add (i.toNat * 8)).off + 5,none⟩ = some (.string (rd_T128 xs i).f5) ∧ w.cell? ⟨(ad.add (i.toNat * 8)).block,(ad.add (i.toNat * 8)).off + 6,none⟩ = some (.string (rd_T128 xs i).f6) ∧ w.cell? ⟨(ad.add (i.toNat * 8)).block,(ad.add (i.toNat * 8)).off + 7,none⟩ = some (.string (rd_T128 xs i).f7):=by
 obtain ⟨ad,c,e,_,hK,hc0⟩:=Kd.C_get h z128 i h0 h1
 have hc:∀ j u,c[j]? = some u → w.cell? (ad.add (i.toNat * 8 + j)) = some u:=hc0
 obtain rfl:=k128_open hK
 exact ⟨ad,e,hc 0 _ rfl,by rw [← add_field _ _ 1 (by omega)];exact hc 1 _ rfl,by rw [← add_field _ _ 2 (by omega)];exact hc 2 _ rfl,by rw [← add_field _ _ 3 (by omega)];exact hc 3 _ rfl,by rw [← add_field _ _ 4 (by omega)];exact hc 4 _ rfl,by rw [← add_field _ _ 5 (by omega)];exact hc 5 _ rfl,by rw [← add_field _ _ 6 (by omega)];exact hc 6 _ rfl,by rw [← add_field _ _ 7 (by omega)];exact hc 7 _ rfl⟩
structure S87 where
 f0:Int
 f1:Int
 f2:ByteArray
 f3:(List S91)
def z87:S87:=⟨(0:Int),(0:Int),(⟨#[]⟩:ByteArray),([]:List S91)⟩
def k87:Kd S87:=Kd.iso (Kd.pair (Kd.int .i64) (Kd.pair (Kd.int .i64) (Kd.pair Kd.string (Kd.slice 91 k91)))) (fun x:S87=>(x.f0,x.f1,x.f2,x.f3))
theorem k87_open {w:World} {x:S87} {cs:List Value} (h:k87.K w x cs):∃ A3 c3,cs = [.int .i64 x.f0,.int .i64 x.f1,.string x.f2,.slice A3 x.f3.length c3] ∧ x.f3.length ≤ c3 ∧ k91.C w A3 x.f3.length x.f3:=by
 obtain ⟨_,_,rfl,rfl,⟨_,_,rfl,rfl,⟨_,_,rfl,rfl,⟨A3,c3,rfl,l3,g3⟩⟩⟩⟩:=h
 exact ⟨A3,c3,rfl,l3,g3⟩
theorem k87_mkM (w:World) (base:Nat) (ok:Nat → Prop) (x:S87) {v3:Value} (g3:k91.R 91 w base ok v3 x.f3):k87.M w base ok x [.int .i64 x.f0,.int .i64 x.f1,.string x.f2,v3]:=⟨[.int .i64 x.f0],[.int .i64 x.f1,.string x.f2,v3],rfl,rfl,⟨[.int .i64 x.f1],[.string x.f2,v3],rfl,rfl,⟨[.string x.f2],[v3],rfl,rfl,⟨v3,rfl,g3⟩⟩⟩⟩
theorem k87_openF {W:World} {ok:Nat → Prop} {x:S87} {cs:List Value} (h:Kd.FK k87 W ok x cs):∃ A3 c3,cs = [.int .i64 x.f0,.int .i64 x.f1,.string x.f2,.slice A3 x.f3.length c3] ∧ x.f3.length ≤ c3 ∧ Kd.F k91 W ok A3 x.f3.length x.f3:=by
 obtain ⟨A3,c3,rfl,l3,_⟩:=k87_open (Kd.FK_now h)
 exact ⟨A3,c3,rfl,l3,(fun W' hW=>by obtain ⟨A3_,c3_,he,l3_,g3_⟩:=k87_open (h W' hW);injection (Option.some.inj (show some (Value.slice A3 x.f3.length c3) = some (Value.slice A3_ x.f3.length c3_) from congrArg (fun l=>l[3]?) he)) with ha_ _ _;rw [ha_];exact g3_)⟩
def rd_T87 (xs:List S87) (i:Int):S87:=xs.getD i.toNat z87
theorem at_T87 {w:World} {A:Option Addr} {n:Nat} {xs:List S87} (h:Kd.C k87 w A n xs) (i:Int) (h0:0 ≤ i) (h1:i < n):∃ ad A3 c3,A = some ad ∧ w.cell? (ad.add (i.toNat * 4)) = some (.int .i64 (rd_T87 xs i).f0) ∧ w.cell? ⟨(ad.add (i.toNat * 4)).block,(ad.add (i.toNat * 4)).off + 1,none⟩ = some (.int .i64 (rd_T87 xs i).f1) ∧ w.cell? ⟨(ad.add (i.toNat * 4)).block,(ad.add (i.toNat * 4)).off + 2,none⟩ = some (.string (rd_T87 xs i).f2) ∧ w.cell? ⟨(ad.add (i.toNat * 4)).block,(ad.add (i.toNat * 4)).off + 3,none⟩ = some (.slice A3 (rd_T87 xs i).f3.length c3) ∧ (rd_T87 xs i).f3.length ≤ c3 ∧ k91.C w A3 (rd_T87 xs i).f3.length (rd_T87 xs i).f3:=by
 obtain ⟨ad,c,e,_,hK,hc0⟩:=Kd.C_get h z87 i h0 h1
 have hc:∀ j u,c[j]? = some u → w.cell? (ad.add (i.toNat * 4 + j)) = some u:=hc0
 obtain ⟨A3,c3,rfl,l3,g3⟩:=k87_open hK
 exact ⟨ad,A3,c3,e,hc 0 _ rfl,by rw [← add_field _ _ 1 (by omega)];exact hc 1 _ rfl,by rw [← add_field _ _ 2 (by omega)];exact hc 2 _ rfl,by rw [← add_field _ _ 3 (by omega)];exact hc 3 _ rfl,l3,g3⟩
theorem eqA128 (d:Nat) (w:World) (x0 y0:Int) (x1 y1:Int) (x2 y2:Int) (x3 y3:Int) (x4 y4:Int) (x5 y5:ByteArray) (x6 y6:ByteArray) (x7 y7:ByteArray) :
 (Op.equalIn (d + 2) 128 (.agg #[.int .i64 x0,.int .i64 x1,.int .i64 x2,.int .i64 x3,.int .i64 x4,.string x5,.string x6,.string x7]) (.agg #[.int .i64 y0,.int .i64 y1,.int .i64 y2,.int .i64 y3,.int .i64 y4,.string y5,.string y6,.string y7])).run Try.prog w = .ok (x0 == y0 && (x1 == y1 && (x2 == y2 && (x3 == y3 && (x4 == y4 && (x5.toList == y5.toList && (x6.toList == y6.toList && (x7.toList == y7.toList)))))))) w:=by
 refine eqA_of Try.underlying128 (by kernel_rfl) ?_
 refine eqf_cons (by rfl) (by go_simp;rfl) (by go_simp;rfl) (by go_simp) ?_
 refine eqf_cons (by rfl) (by go_simp;rfl) (by go_simp;rfl) (by go_simp) ?_
 refine eqf_cons (by rfl) (by go_simp;rfl) (by go_simp;rfl) (by go_simp) ?_
 refine eqf_cons (by rfl) (by go_simp;rfl) (by go_simp;rfl) (by go_simp) ?_
 refine eqf_cons (by rfl) (by go_simp;rfl) (by go_simp;rfl) (by go_simp) ?_
 refine eqf_cons (by rfl) (by go_simp;rfl) (by go_simp;rfl) (by go_simp) ?_
 refine eqf_cons (by rfl) (by go_simp;rfl) (by go_simp;rfl) (by go_simp) ?_
 exact eqf_last (by rfl) (by go_simp;rfl) (by go_simp;rfl) (by go_simp)
end Go.Proofs.Ytlcodfjlbhjkbaa.PDelta
end
section
namespace Go.Proofs.Ytlcodfjlbhjkbaa.PDelta
open Go.RowKit Go.Proofs.YtlcodfjlbhjkbaaW.PrintWords Go.Proofs.YtlcodfjlbhjkbaaW.PrintLast Go.Proofs.YtlcodfjlbhjkbaaW.PrintMore
def plS (d:Int):ByteArray:=rdOf ByteArray.empty [⟨#[98]⟩,⟨#[99]⟩,⟨#[100]⟩] d
theorem roll_range {raw:List Int} {u:Nat} {n x:Int} (hn:1 ≤ n) (hn2:n ≤ 1000) (h:rollF raw u n = some x):0 ≤ x ∧ x < n:=by
 unfold rollF at h
 split at h
 ·injection h with h;omega
 ·rw [show wrap64 (n - 1) = n - 1 by unfold wrap64;omega] at h
  obtain ⟨q,hq⟩:∃ q,q = wrap64 (rd raw ((u % raw.length:Nat):Int) + (((u + 1) / raw.length:Nat):Int)):=⟨_,rfl⟩
  rw [← hq] at h
  clear hq
  unfold chanceryref1_Within.f at h
  rw [show wrap64 ((n - 1) - 0) = n - 1 by unfold wrap64;omega,show wrap64 ((n - 1) + 1) = n by unfold wrap64;omega] at h
  have h3:-n < Int.tmod q n ∧ Int.tmod q n < n:=⟨Int.lt_tmod_of_pos q (by omega),Int.tmod_lt_of_pos q (by omega)⟩
  have h4:wrap64 (Int.tmod q n + n) = Int.tmod q n + n:=by unfold wrap64;omega
  rw [h4] at h
  have h5:0 ≤ Int.tmod (Int.tmod q n + n) n:=Int.tmod_nonneg _ (by omega)
  have h6:Int.tmod (Int.tmod q n + n) n < n:=Int.tmod_lt_of_pos _ (by omega)
  have h7:wrap64 (0 + Int.tmod (Int.tmod q n + n) n) = Int.tmod (Int.tmod q n + n) n:=by unfold wrap64;omega
  (rw [h7] at h;split at h <;> first | (injection h with h;omega) | cases h)
section
variable {w0 w w1:World} {gd u:Nat} {raw:List Int} {v:Value} {out:List S128}
end
section
variable {w w1:World} {base:Nat} {v:Value} {xs:List ByteArray}
theorem strR_ad (h:Kd.R Kd.string 9 w base (fun _=>True) v xs) (hp:0 < xs.length):∃ ad c,v = .slice (some ad) xs.length c:=by
 obtain ⟨A,c,rfl⟩:=Kd.R_slice h
 obtain ⟨ad,e,_⟩:=Kd.at_string (Kd.R_reads' h).2.2 0 (Int.le_refl _) (by omega)
 subst e
 exact ⟨ad,c,rfl⟩
end
end Go.Proofs.Ytlcodfjlbhjkbaa.PDelta
end
section
namespace Go.Proofs.Ytlcodfjlbhjkbaa.PDelta
open Go.RowKit Go.Proofs.YtlcodfjlbhjkbaaW.PrintWords Go.Proofs.YtlcodfjlbhjkbaaW.PrintLast Go.Proofs.YtlcodfjlbhjkbaaW.PrintMore
attribute [local go_sem] max2_int min2_int max_two min_two max_three min_three max_four min_four
attribute [local go_sem high] Go.Proofs.Ytlcodfjlbhjkbaa.Ord.leq_str Go.Proofs.Ytlcodfjlbhjkbaa.Ord.gtr_str Go.Proofs.Ytlcodfjlbhjkbaa.Ord.geq_str
noncomputable section
mutual
def replica_Place.j0:Nat → ByteArray → Bool → Option (Bool)
 | 0,_,_=>none
 | k + 1,x0,x18=>if x18 = true then (some false) else (replica_Place.l0 k x0 (x0.size:Int) 0)
def replica_Place.l0:Nat → ByteArray → Int → Int → Option (Bool)
 | 0,_,_,_=>none
 | k + 1,x0,x20,x21=>if x21 < x20 then (if 0 ≤ x21 then (if x21 < (x0.size:Int) then (if (bt x0 x21) < 97 then (some false) else (if (bt x0 x21) > 122 then (some false) else (replica_Place.l0 k x0 x20 (wrap64 (x21 + 1))))) else (none)) else (none)) else (some true)
end
def replica_Place.f (k:Nat) (a0:ByteArray):Option (Bool):=if a0.toList = ([]:List UInt8) then (replica_Place.j0 k a0 true) else (if (a0.size:Int) > 200 then (replica_Place.j0 k a0 true) else (if 0 ≤ (wrap64 ((a0.size:Int) - 1)) then (if (wrap64 ((a0.size:Int) - 1)) < (a0.size:Int) then (replica_Place.j0 k a0 ((bt a0 (wrap64 ((a0.size:Int) - 1))) == 97)) else (none)) else (none)))
theorem replica_Place.mono_l:∀ k,(∀ y0 y1,LeO (replica_Place.j0 k y0 y1) (replica_Place.j0 (k + 1) y0 y1)) ∧ (∀ y0 y1 y2,LeO (replica_Place.l0 k y0 y1 y2) (replica_Place.l0 (k + 1) y0 y1 y2))
 | 0=>⟨fun _ _ r h=>by simp [replica_Place.j0] at h,fun _ _ _ r h=>by simp [replica_Place.l0] at h⟩
 | k + 1=>by
  obtain ⟨ih0,ih1⟩:=replica_Place.mono_l k
  refine ⟨?_,?_⟩
  ·intro y0 y1
   unfold replica_Place.j0
   repeat' first | (with_reducible exact ih1 _ _ _) | (with_reducible exact LeO.refl _) | (with_reducible refine LeO.ite ?_ ?_)
  ·intro y0 y1 y2
   unfold replica_Place.l0
   repeat' first | (with_reducible exact ih1 _ _ _) | (with_reducible exact LeO.refl _) | (with_reducible refine LeO.ite ?_ ?_)
theorem replica_Place.mono:∀ a0 k,LeO (replica_Place.f k a0) (replica_Place.f (k + 1) a0):=by
 intro a0 k
 obtain ⟨ih0,ih1⟩:=replica_Place.mono_l k
 unfold replica_Place.f
 repeat' first | (with_reducible exact ih0 _ _) | (with_reducible exact LeO.refl _) | (with_reducible refine LeO.ite ?_ ?_)
set_option maxHeartbeats 8000000 in
set_option maxRecDepth 100000 in
theorem replica_Place.calls (k:Nat) (a0:ByteArray) (r:Bool) (w:World) (h:replica_Place.f k a0 = some r) :
 Calls Try.prog 42 #[.string a0] w fun e w'=>e = .returned (.bool r) ∧ Drawn0 w w':=by
 have H:(if a0.toList = ([]:List UInt8) then (replica_Place.j0 k a0 true) else (if (a0.size:Int) > 200 then (replica_Place.j0 k a0 true) else (if 0 ≤ (wrap64 ((a0.size:Int) - 1)) then (if (wrap64 ((a0.size:Int) - 1)) < (a0.size:Int) then (replica_Place.j0 k a0 ((bt a0 (wrap64 ((a0.size:Int) - 1))) == 97)) else (none)) else (none)))) = some r:=h
 clear h
 have HC2:=Aside0.mk H
 clear H
 go_enter Try.func42,Try.ntmps42
 go_upto_region 1 with (fail)
 go_cut [18] (fun v18 wc=>∃ (kq:Nat) (x18_1:Bool),v18 = .bool x18_1 ∧ Aside0 (replica_Place.j0 kq a0 x18_1 = some r) ∧ Aside0 (kq ≤ k) ∧ Drawn0 w wc)
 case first =>
  have H:=HC2.out
  clear HC2
  by_cases c3:a0.toList = ([]:List UInt8)
  ·rw [if_pos c3] at H
   have c3b0:(a0.toList == ([]:List UInt8)) = true:=beq_iff_eq.mpr c3
   have c3b1:(a0.toList != ([]:List UInt8)) = false:=bne_eq_false_iff_eq.mpr c3
   clear c3
   (skip)
   have H':=Aside0.mk H
   clear H
   go_wp2
   go_meet
   case rel=>exact ⟨_,(true),(by rfl),H',⟨by omega⟩,by repeat (exact Drawn0.refl _)⟩
  ·rw [if_neg c3] at H
   have c3b0:(a0.toList == ([]:List UInt8)) = false:=beq_eq_false_iff_ne.mpr c3
   have c3b1:(a0.toList != ([]:List UInt8)) = true:=bne_iff_ne.mpr c3
   (skip)
   by_cases c4:(a0.size:Int) > 200
   ·rw [if_pos c4] at H
    have c4b0:decide (200 < (a0.size:Int)) = true:=decide_eq_true c4
    have c4b1:decide (200 < a0.size) = true:=decide_eq_true (by omega)
    clear c4
    have H':=Aside0.mk H
    clear H
    go_wp2
    go_meet
    case rel=>exact ⟨_,(true),(by rfl),H',⟨by omega⟩,by repeat (exact Drawn0.refl _)⟩
   ·rw [if_neg c4] at H
    have c4b0:decide (200 < (a0.size:Int)) = false:=decide_eq_false c4
    have c4b1:decide (200 < a0.size) = false:=decide_eq_false (by omega)
    clear c4
    obtain ⟨ji5,hji5⟩:∃ j_:Int,(wrap64 ((a0.size:Int) - 1)) = j_:=⟨_,rfl⟩
    replace H:(if 0 ≤ (ji5) then (if (ji5) < (a0.size:Int) then (replica_Place.j0 k a0 ((bt a0 (ji5)) == 97)) else (none)) else (none)) = some r:=by (rw [hji5] at H;exact H)
    have hji5w:(IntKind.i64.wrap ((a0.size:Int) - 1)) = ji5:=(i64_w _).trans hji5
    by_cases c6:0 ≤ (ji5)
    ·rw [if_pos c6] at H
     have c6b0:decide (0 ≤ (ji5)) = true:=decide_eq_true c6
     clear c6
     by_cases c7:(ji5) < (a0.size:Int)
     ·rw [if_pos c7] at H
      have c7b0:decide ((ji5) < (a0.size:Int)) = true:=decide_eq_true c7
      clear c7
      have H':=Aside0.mk H
      clear H
      have p8:0 ≤ ((ji5):Int):=of_decide_eq_true (by assumption)
      have q8:(ji5) < (a0.size:Int):=of_decide_eq_true (by assumption)
      have hx8:=bt_at a0 (ji5)
      replace p8:=eq_true p8
      replace q8:=eq_true q8
      go_wp2
      go_meet
      case rel=>exact ⟨_,(((bt a0 (ji5)) == 97)),(by rfl),H',⟨by omega⟩,by repeat (exact Drawn0.refl _)⟩
     ·rw [if_neg c7] at H
      exact absurd H (by simp)
    ·rw [if_neg c6] at H
     exact absurd H (by simp)
 case rest =>
  clear HC2
  obtain ⟨kq,x18_1,rfl,HA,HJ1,⟨mc1,rfl⟩⟩:=hcut
  cases kq with
  | zero=>exact absurd HA.out (by simp [replica_Place.j0])
  | succ kj1 =>
   have H:=HA.out
   clear HA
   simp only [replica_Place.j0] at H
   by_cases c9:x18_1 = true
   ·subst c9
    have H1:(some false) = some r:=by rw [if_pos rfl] at H;exact H
    clear H
    have H:=H1
    clear H1
    obtain rfl:=Option.some.inj H
    go_wp2
    go_ret
    exact ⟨by rfl,by repeat (first | exact Drawn0.refl _ | apply Drawn0.step)⟩
   ·replace c9:=Bool.eq_false_iff.mpr c9
    subst c9
    have H1:(replica_Place.l0 kj1 a0 (a0.size:Int) 0) = some r:=by rw [if_neg (show ¬ (false = true) by decide)] at H;exact H
    clear H
    have H:=H1
    clear H1
    have H':=Aside0.mk H
    clear H
    go_wp2
    go_loopg [21] kj1 (fun kq v21 w'=>∃ (x21_2:Int),v21 = .int .i64 x21_2 ∧ Aside0 (replica_Place.l0 kq a0 (a0.size:Int) x21_2 = some r) ∧ Aside0 (kq ≤ kj1) ∧ Drawn0 w w')
    case atStart=>exact ⟨(0),(by rfl),H',⟨Nat.le_refl _⟩,by repeat (first | exact Drawn0.refl _ | apply Drawn0.step)⟩
    case round =>
     clear H'
     obtain ⟨x21_2,rfl,HA,HK2,⟨m2,rfl⟩⟩:=hrel
     cases gk with
     | zero=>exact absurd HA.out (by simp [replica_Place.l0])
     | succ k2 =>
      have H:=HA.out
      clear HA
      simp only [replica_Place.l0] at H
      by_cases c10:x21_2 < (a0.size:Int)
      ·rw [if_pos c10] at H
       have c10b0:decide (x21_2 < (a0.size:Int)) = true:=decide_eq_true c10
       clear c10
       by_cases c11:0 ≤ x21_2
       ·rw [if_pos c11] at H
        have c11b0:decide (0 ≤ x21_2) = true:=decide_eq_true c11
        clear c11
        by_cases c12:x21_2 < (a0.size:Int)
        ·rw [if_pos c12] at H
         have c12b0:decide (x21_2 < (a0.size:Int)) = true:=decide_eq_true c12
         clear c12
         by_cases c14:(bt a0 x21_2) < 97
         ·rw [if_pos c14] at H
          have c14b0:decide ((bt a0 x21_2) < 97) = true:=decide_eq_true c14
          clear c14
          obtain rfl:=Option.some.inj H
          have p13:0 ≤ (x21_2:Int):=of_decide_eq_true (by assumption)
          have q13:x21_2 < (a0.size:Int):=of_decide_eq_true (by assumption)
          have hx13:=bt_at a0 x21_2
          replace p13:=eq_true p13
          replace q13:=eq_true q13
          go_wp2
          go_ret
          exact ⟨by rfl,by repeat (first | exact Drawn0.refl _ | apply Drawn0.step)⟩
         ·rw [if_neg c14] at H
          have c14b0:decide ((bt a0 x21_2) < 97) = false:=decide_eq_false c14
          clear c14
          by_cases c16:(bt a0 x21_2) > 122
          ·rw [if_pos c16] at H
           have c16b0:decide (122 < (bt a0 x21_2)) = true:=decide_eq_true c16
           clear c16
           obtain rfl:=Option.some.inj H
           have p13:0 ≤ (x21_2:Int):=of_decide_eq_true (by assumption)
           have q13:x21_2 < (a0.size:Int):=of_decide_eq_true (by assumption)
           have hx13:=bt_at a0 x21_2
           replace p13:=eq_true p13
           replace q13:=eq_true q13
           have p15:0 ≤ (x21_2:Int):=of_decide_eq_true (by assumption)
           have q15:x21_2 < (a0.size:Int):=of_decide_eq_true (by assumption)
           have hx15:=bt_at a0 x21_2
           replace p15:=eq_true p15
           replace q15:=eq_true q15
           go_wp2
           go_ret
           exact ⟨by rfl,by repeat (first | exact Drawn0.refl _ | apply Drawn0.step)⟩
          ·rw [if_neg c16] at H
           have c16b0:decide (122 < (bt a0 x21_2)) = false:=decide_eq_false c16
           clear c16
           have H':=Aside0.mk H
           clear H
           have p13:0 ≤ (x21_2:Int):=of_decide_eq_true (by assumption)
           have q13:x21_2 < (a0.size:Int):=of_decide_eq_true (by assumption)
           have hx13:=bt_at a0 x21_2
           replace p13:=eq_true p13
           replace q13:=eq_true q13
           have p15:0 ≤ (x21_2:Int):=of_decide_eq_true (by assumption)
           have q15:x21_2 < (a0.size:Int):=of_decide_eq_true (by assumption)
           have hx15:=bt_at a0 x21_2
           replace p15:=eq_true p15
           replace q15:=eq_true q15
           go_wp2
           go_roundg k2
           case measure=>have:=HJ1.out;have:=HK2.out;omega
           case rel=>exact ⟨(wrap64 (x21_2 + 1)),(by rfl),H',⟨by have:=HJ1.out;have:=HK2.out;omega⟩,by repeat (first | exact Drawn0.refl _ | apply Drawn0.step)⟩
        ·rw [if_neg c12] at H
         exact absurd H (by simp)
       ·rw [if_neg c11] at H
        exact absurd H (by simp)
      ·rw [if_neg c10] at H
       have c10b0:decide (x21_2 < (a0.size:Int)) = false:=decide_eq_false c10
       clear c10
       obtain rfl:=Option.some.inj H
       go_wp2
       go_ret
       exact ⟨by rfl,by repeat (first | exact Drawn0.refl _ | apply Drawn0.step)⟩
end
noncomputable section
mutual
def replica_Between.j0:Nat → ByteArray → ByteArray → Bool → Option (ByteArray × Int)
 | 0,_,_,_=>none
 | k + 1,x0,x1,x26=>if x26 = true then (some ((⟨#[]⟩:ByteArray),9)) else (if x0.toList = ([]:List UInt8) then (replica_Between.j1 k x0 x1 false) else (if x1.toList = ([]:List UInt8) then (replica_Between.j1 k x0 x1 false) else (replica_Between.j1 k x0 x1 (!(Op.bytesLess x0.toList x1.toList)))))
def replica_Between.j1:Nat → ByteArray → ByteArray → Bool → Option (ByteArray × Int)
 | 0,_,_,_=>none
 | k + 1,x0,x1,x37=>if x37 = true then (some ((⟨#[]⟩:ByteArray),5)) else (replica_Between.l0 k x0 x1 ([]:List Int) 0 (x1.toList == ([]:List UInt8)))
def replica_Between.l0:Nat → ByteArray → ByteArray → List Int → Int → Bool → Option (ByteArray × Int)
 | 0,_,_,_,_,_=>none
 | k + 1,x0,x1,x6,x7,x8=>if x7 < (x0.size:Int) then (if 0 ≤ x7 then (replica_Between.j3 k x0 x1 x6 x7 x8 (((bt x0 x7) - 97) % 256) 26) else (none)) else (replica_Between.j3 k x0 x1 x6 x7 x8 0 26)
def replica_Between.j3:Nat → ByteArray → ByteArray → List Int → Int → Bool → Int → Int → Option (ByteArray × Int)
 | 0,_,_,_,_,_,_,_=>none
 | k + 1,x0,x1,x6,x7,x8,x9,x10=>if x8 = true then (if (wrap64 (x10 - x9)) ≥ 2 then (if x6.length < 140737488355328 then ((some (x6 ++ [(wrap64 ((wrap64 (97 + x9)) + (wrap64 (Int.tdiv (wrap64 (x10 - x9)) 2)))) % 256]:List Int)).bind fun y189=>(if (y189.length:Int) > 200 then (some ((⟨#[]⟩:ByteArray),18)) else (some (strOfNums y189,0)))) else (none)) else (if x6.length < 140737488355328 then (replica_Between.l0 k x0 x1 (x6 ++ [(wrap64 (97 + x9)) % 256]) (wrap64 (x7 + 1)) true) else (none))) else (if 0 ≤ x7 then (if x7 < (x1.size:Int) then (if (wrap64 ((((bt x1 x7) - 97) % 256) - x9)) ≥ 2 then (if x6.length < 140737488355328 then ((some (x6 ++ [(wrap64 ((wrap64 (97 + x9)) + (wrap64 (Int.tdiv (wrap64 ((((bt x1 x7) - 97) % 256) - x9)) 2)))) % 256]:List Int)).bind fun y195=>(if (y195.length:Int) > 200 then (some ((⟨#[]⟩:ByteArray),18)) else (some (strOfNums y195,0)))) else (none)) else (if x6.length < 140737488355328 then (replica_Between.l0 k x0 x1 (x6 ++ [(wrap64 (97 + x9)) % 256]) (wrap64 (x7 + 1)) (decide ((((bt x1 x7) - 97) % 256) > x9))) else (none))) else (none)) else (none))
end
def replica_Between.f (k:Nat) (a0:ByteArray) (a1:ByteArray):Option (ByteArray × Int):=if a0.toList = ([]:List UInt8) then (if a1.toList = ([]:List UInt8) then (replica_Between.j0 k a0 a1 false) else ((replica_Place.f k a1).bind fun t186=>(replica_Between.j0 k a0 a1 (!t186)))) else ((replica_Place.f k a0).bind fun t187=>(if t187 = true then (if a1.toList = ([]:List UInt8) then (replica_Between.j0 k a0 a1 false) else ((replica_Place.f k a1).bind fun t188=>(replica_Between.j0 k a0 a1 (!t188)))) else (replica_Between.j0 k a0 a1 true)))
set_option maxHeartbeats 8000000 in
set_option maxRecDepth 100000 in
theorem replica_Between.calls (k:Nat) (a0:ByteArray) (a1:ByteArray) (r1:ByteArray) (r2:Int) (w:World) (h:replica_Between.f k a0 a1 = some (r1,r2)) :
 Calls Try.prog 41 #[.string a0,.string a1] w fun e w'=>e = .returned (.tuple #[.string r1,.int .i64 r2]) ∧ Below w.heap.size w w':=by
 have HB:=Aside0.mk (Below.refl w.heap.size w)
 have H:(if a0.toList = ([]:List UInt8) then (if a1.toList = ([]:List UInt8) then (replica_Between.j0 k a0 a1 false) else ((replica_Place.f k a1).bind fun t186=>(replica_Between.j0 k a0 a1 (!t186)))) else ((replica_Place.f k a0).bind fun t187=>(if t187 = true then (if a1.toList = ([]:List UInt8) then (replica_Between.j0 k a0 a1 false) else ((replica_Place.f k a1).bind fun t188=>(replica_Between.j0 k a0 a1 (!t188)))) else (replica_Between.j0 k a0 a1 true)))) = some (r1,r2):=h
 clear h
 have HC3:=Aside0.mk H
 clear H
 go_enter Try.func41,Try.ntmps41
 go_upto_region 1 with (fail)
 go_cut [26] (fun v26 wc=>∃ (kq:Nat) (x26_2:Bool),v26 = .bool x26_2 ∧ Aside0 (replica_Between.j0 kq a0 a1 x26_2 = some (r1,r2)) ∧ Aside0 (kq ≤ k) ∧ Aside0 (Below w.heap.size w wc))
 case first =>
  have H:=HC3.out
  clear HC3
  by_cases c4:a0.toList = ([]:List UInt8)
  ·rw [if_pos c4] at H
   have c4b0:(a0.toList == ([]:List UInt8)) = true:=beq_iff_eq.mpr c4
   have c4b1:(a0.toList != ([]:List UInt8)) = false:=bne_eq_false_iff_eq.mpr c4
   clear c4
   (skip)
   by_cases c5:a1.toList = ([]:List UInt8)
   ·rw [if_pos c5] at H
    have c5b0:(a1.toList == ([]:List UInt8)) = true:=beq_iff_eq.mpr c5
    have c5b1:(a1.toList != ([]:List UInt8)) = false:=bne_eq_false_iff_eq.mpr c5
    clear c5
    have H':=Aside0.mk H
    clear H
    go_wp2
    go_meet
    case rel=>exact ⟨_,(false),(by rfl),H',⟨by omega⟩,⟨HB.out⟩⟩
   ·rw [if_neg c5] at H
    have c5b0:(a1.toList == ([]:List UInt8)) = false:=beq_eq_false_iff_ne.mpr c5
    have c5b1:(a1.toList != ([]:List UInt8)) = true:=bne_iff_ne.mpr c5
    replace H:=Option.bind_eq_some_iff.mp H
    obtain ⟨t186,A60,H⟩:=H
    replace H:(replica_Between.j0 k a0 a1 (!t186)) = some (r1,r2):=H
    have A6:=Aside0.mk A60
    clear A60
    have H':=Aside0.mk H
    clear H
    go_wp2_with ((go_at_call 42;(with_reducible refine (replica_Place.calls k a1 t186 _ A6.out).mono ?_);rintro e w' ⟨rfl,⟨nd,rfl⟩⟩))
    go_meet
    case rel=>exact ⟨_,(!t186),(by rfl),H',⟨by omega⟩,⟨by repeat ((with_reducible first | exact HB.out | apply pw_below_drewN))⟩⟩
  ·rw [if_neg c4] at H
   have c4b0:(a0.toList == ([]:List UInt8)) = false:=beq_eq_false_iff_ne.mpr c4
   have c4b1:(a0.toList != ([]:List UInt8)) = true:=bne_iff_ne.mpr c4
   (skip)
   replace H:=Option.bind_eq_some_iff.mp H
   obtain ⟨t187,A70,H⟩:=H
   replace H:(if t187 = true then (if a1.toList = ([]:List UInt8) then (replica_Between.j0 k a0 a1 false) else ((replica_Place.f k a1).bind fun t188=>(replica_Between.j0 k a0 a1 (!t188)))) else (replica_Between.j0 k a0 a1 true)) = some (r1,r2):=H
   have A7:=Aside0.mk A70
   clear A70
   by_cases c8:t187 = true
   ·subst c8
    have H1:(if a1.toList = ([]:List UInt8) then (replica_Between.j0 k a0 a1 false) else ((replica_Place.f k a1).bind fun t188=>(replica_Between.j0 k a0 a1 (!t188)))) = some (r1,r2):=by rw [if_pos rfl] at H;exact H
    clear H
    have H:=H1
    clear H1
    by_cases c9:a1.toList = ([]:List UInt8)
    ·rw [if_pos c9] at H
     have c9b0:(a1.toList == ([]:List UInt8)) = true:=beq_iff_eq.mpr c9
     have c9b1:(a1.toList != ([]:List UInt8)) = false:=bne_eq_false_iff_eq.mpr c9
     clear c9
     have H':=Aside0.mk H
     clear H
     go_wp2_with ((go_at_call 42;(with_reducible refine (replica_Place.calls k a0 true _ A7.out).mono ?_);rintro e w' ⟨rfl,⟨nd,rfl⟩⟩))
     go_meet
     case rel=>exact ⟨_,(false),(by rfl),H',⟨by omega⟩,⟨by repeat ((with_reducible first | exact HB.out | apply pw_below_drewN))⟩⟩
    ·rw [if_neg c9] at H
     have c9b0:(a1.toList == ([]:List UInt8)) = false:=beq_eq_false_iff_ne.mpr c9
     have c9b1:(a1.toList != ([]:List UInt8)) = true:=bne_iff_ne.mpr c9
     replace H:=Option.bind_eq_some_iff.mp H
     obtain ⟨t188,A100,H⟩:=H
     replace H:(replica_Between.j0 k a0 a1 (!t188)) = some (r1,r2):=H
     have A10:=Aside0.mk A100
     clear A100
     have H':=Aside0.mk H
     clear H
     go_wp2_with (first | (go_at_call 42;(with_reducible refine (replica_Place.calls k a0 true _ A7.out).mono ?_);rintro e w' ⟨rfl,⟨nd,rfl⟩⟩) | (go_at_call 42;(with_reducible refine (replica_Place.calls k a1 t188 _ A10.out).mono ?_);rintro e w' ⟨rfl,⟨nd,rfl⟩⟩))
     go_meet
     case rel=>exact ⟨_,(!t188),(by rfl),H',⟨by omega⟩,⟨by repeat ((with_reducible first | exact HB.out | apply pw_below_drewN))⟩⟩
   ·replace c8:=Bool.eq_false_iff.mpr c8
    subst c8
    have H1:(replica_Between.j0 k a0 a1 true) = some (r1,r2):=by rw [if_neg (show ¬ (false = true) by decide)] at H;exact H
    clear H
    have H:=H1
    clear H1
    have H':=Aside0.mk H
    clear H
    go_wp2_with ((go_at_call 42;(with_reducible refine (replica_Place.calls k a0 false _ A7.out).mono ?_);rintro e w' ⟨rfl,⟨nd,rfl⟩⟩))
    go_meet
    case rel=>exact ⟨_,(true),(by rfl),H',⟨by omega⟩,⟨by repeat ((with_reducible first | exact HB.out | apply pw_below_drewN))⟩⟩
 case rest =>
  clear HC3
  obtain ⟨kq,x26_2,rfl,HA,HJ2,HB⟩:=hcut
  cases kq with
  | zero=>exact absurd HA.out (by simp [replica_Between.j0])
  | succ kj2 =>
   have H:=HA.out
   clear HA
   simp only [replica_Between.j0] at H
   by_cases c11:x26_2 = true
   ·subst c11
    have H1:(some ((⟨#[]⟩:ByteArray),9)) = some (r1,r2):=by rw [if_pos rfl] at H;exact H
    clear H
    have H:=H1
    clear H1
    simp only [Option.some.injEq,Prod.mk.injEq] at H
    obtain ⟨rfl,rfl⟩:=H
    go_wp2
    go_ret2
    exact ⟨by rfl,HB.out⟩
   ·replace c11:=Bool.eq_false_iff.mpr c11
    subst c11
    have H1:(if a0.toList = ([]:List UInt8) then (replica_Between.j1 kj2 a0 a1 false) else (if a1.toList = ([]:List UInt8) then (replica_Between.j1 kj2 a0 a1 false) else (replica_Between.j1 kj2 a0 a1 (!(Op.bytesLess a0.toList a1.toList))))) = some (r1,r2):=by rw [if_neg (show ¬ (false = true) by decide)] at H;exact H
    clear H
    have H:=H1
    clear H1
    have HC12:=Aside0.mk H
    clear H
    go_upto_region 3 with (fail)
    go_cut [37] (fun v37 wc=>∃ (kq:Nat) (x37_11:Bool),v37 = .bool x37_11 ∧ Aside0 (replica_Between.j1 kq a0 a1 x37_11 = some (r1,r2)) ∧ Aside0 (kq ≤ kj2) ∧ Aside0 (Below w.heap.size w wc))
    case first =>
     have H:=HC12.out
     clear HC12
     by_cases c13:a0.toList = ([]:List UInt8)
     ·rw [if_pos c13] at H
      have c13b0:(a0.toList == ([]:List UInt8)) = true:=beq_iff_eq.mpr c13
      have c13b1:(a0.toList != ([]:List UInt8)) = false:=bne_eq_false_iff_eq.mpr c13
      clear c13
      (skip)
      have H':=Aside0.mk H
      clear H
      go_wp2
      go_meet
      case rel=>exact ⟨_,(false),(by rfl),H',⟨by have:=HJ2.out;omega⟩,⟨HB.out⟩⟩
     ·rw [if_neg c13] at H
      have c13b0:(a0.toList == ([]:List UInt8)) = false:=beq_eq_false_iff_ne.mpr c13
      have c13b1:(a0.toList != ([]:List UInt8)) = true:=bne_iff_ne.mpr c13
      (skip)
      by_cases c14:a1.toList = ([]:List UInt8)
      ·rw [if_pos c14] at H
       have c14b0:(a1.toList == ([]:List UInt8)) = true:=beq_iff_eq.mpr c14
       have c14b1:(a1.toList != ([]:List UInt8)) = false:=bne_eq_false_iff_eq.mpr c14
       clear c14
       have H':=Aside0.mk H
       clear H
       go_wp2
       go_meet
       case rel=>exact ⟨_,(false),(by rfl),H',⟨by have:=HJ2.out;omega⟩,⟨HB.out⟩⟩
      ·rw [if_neg c14] at H
       have c14b0:(a1.toList == ([]:List UInt8)) = false:=beq_eq_false_iff_ne.mpr c14
       have c14b1:(a1.toList != ([]:List UInt8)) = true:=bne_iff_ne.mpr c14
       have H':=Aside0.mk H
       clear H
       go_wp2
       go_meet
       case rel=>exact ⟨_,(!(Op.bytesLess a0.toList a1.toList)),(by rfl),H',⟨by have:=HJ2.out;omega⟩,⟨HB.out⟩⟩
    case rest =>
     clear HC12
     obtain ⟨kq,x37_11,rfl,HA,HJ11,HB⟩:=hcut
     cases kq with
     | zero=>exact absurd HA.out (by simp [replica_Between.j1])
     | succ kj11 =>
      have H:=HA.out
      clear HA
      simp only [replica_Between.j1] at H
      by_cases c15:x37_11 = true
      ·subst c15
       have H1:(some ((⟨#[]⟩:ByteArray),5)) = some (r1,r2):=by rw [if_pos rfl] at H;exact H
       clear H
       have H:=H1
       clear H1
       simp only [Option.some.injEq,Prod.mk.injEq] at H
       obtain ⟨rfl,rfl⟩:=H
       go_wp2
       go_ret2
       exact ⟨by rfl,HB.out⟩
      ·replace c15:=Bool.eq_false_iff.mpr c15
       subst c15
       have H1:(replica_Between.l0 kj11 a0 a1 ([]:List Int) 0 (a1.toList == ([]:List UInt8))) = some (r1,r2):=by rw [if_neg (show ¬ (false = true) by decide)] at H;exact H
       clear H
       have H:=H1
       clear H1
       have H':=Aside0.mk H
       clear H
       go_wp2
       go_loopg [6,7,8] kj11 (fun kq v6 v7 v8 w'=>∃ (x6_3:List Int) (x7_3:Int) (x8_3:Bool),v7 = .int .i64 x7_3 ∧ v8 = .bool x8_3 ∧ Aside0 (replica_Between.l0 kq a0 a1 x6_3 x7_3 x8_3 = some (r1,r2)) ∧ Aside0 (kq ≤ kj11) ∧ Aside0 (Kd.R (Kd.int .u8) 5 w' w.heap.size (fun _=>True) v6 x6_3) ∧ Aside0 (Below w.heap.size w w'))
       case atStart=>exact ⟨(([]:List Int)),(0),((a1.toList == ([]:List UInt8))),(by rfl),(by (simp;done)),H',⟨Nat.le_refl _⟩,⟨by exact Kd.R_nil _ _ _ _ _⟩,⟨HB.out⟩⟩
       case round =>
        clear H'
        obtain ⟨x6_3,x7_3,x8_3,rfl,rfl,HA,HK3,HO_6,HB⟩:=hrel
        cases gk with
        | zero=>exact absurd HA.out (by simp [replica_Between.l0])
        | succ k3 =>
         have H:=HA.out
         clear HA
         simp only [replica_Between.l0] at H
         have HC16:=Aside0.mk H
         clear H
         go_upto_if 45 with (fail)
         go_cut [9] (fun v9 wc=>∃ (kq:Nat) (x9_15:Int),v9 = .int .i64 x9_15 ∧ Aside0 (replica_Between.j3 kq a0 a1 x6_3 x7_3 x8_3 x9_15 26 = some (r1,r2)) ∧ Aside0 (kq ≤ k3) ∧ Aside0 (Kd.R (Kd.int .u8) 5 wc w.heap.size (fun _=>True) u6 x6_3) ∧ Aside0 (Below w.heap.size w wc))
         case first =>
          have H:=HC16.out
          clear HC16
          by_cases c17:x7_3 < (a0.size:Int)
          ·rw [if_pos c17] at H
           have c17b0:decide (x7_3 < (a0.size:Int)) = true:=decide_eq_true c17
           clear c17
           (rw [c17b0])
           by_cases c18:0 ≤ x7_3
           ·rw [if_pos c18] at H
            have c18b0:decide (0 ≤ x7_3) = true:=decide_eq_true c18
            clear c18
            have H':=Aside0.mk H
            clear H
            have p19:0 ≤ (x7_3:Int):=of_decide_eq_true (by assumption)
            have q19:x7_3 < (a0.size:Int):=of_decide_eq_true (by assumption)
            have hx19:=bt_at a0 x7_3
            replace p19:=eq_true p19
            replace q19:=eq_true q19
            go_wp2
            go_meet
            case rel=>exact ⟨_,(((bt a0 x7_3) - 97) % 256),(by rfl),H',⟨by have:=HJ2.out;have:=HJ11.out;have:=HK3.out;omega⟩,⟨by exact HO_6.out⟩,⟨HB.out⟩⟩
           ·rw [if_neg c18] at H
            exact absurd H (by simp)
          ·rw [if_neg c17] at H
           have c17b0:decide (x7_3 < (a0.size:Int)) = false:=decide_eq_false c17
           clear c17
           (rw [c17b0])
           have H':=Aside0.mk H
           clear H
           go_wp2
           go_meet
           case rel=>exact ⟨_,(0),(by rfl),H',⟨by have:=HJ2.out;have:=HJ11.out;have:=HK3.out;omega⟩,⟨by exact HO_6.out⟩,⟨HB.out⟩⟩
         case rest =>
          clear HC16
          obtain ⟨kq,x9_15,rfl,HA,HJ15,HO_6,HB⟩:=hcut
          cases kq with
          | zero=>exact absurd HA.out (by simp [replica_Between.j3])
          | succ kj15 =>
           have H:=HA.out
           clear HA
           simp only [replica_Between.j3] at H
           by_cases c20:x8_3 = true
           ·subst c20
            have H1:(if (wrap64 (26 - x9_15)) ≥ 2 then (if x6_3.length < 140737488355328 then ((some (x6_3 ++ [(wrap64 ((wrap64 (97 + x9_15)) + (wrap64 (Int.tdiv (wrap64 (26 - x9_15)) 2)))) % 256]:List Int)).bind fun y189=>(if (y189.length:Int) > 200 then (some ((⟨#[]⟩:ByteArray),18)) else (some (strOfNums y189,0)))) else (none)) else (if x6_3.length < 140737488355328 then (replica_Between.l0 kj15 a0 a1 (x6_3 ++ [(wrap64 (97 + x9_15)) % 256]) (wrap64 (x7_3 + 1)) true) else (none))) = some (r1,r2):=by rw [if_pos rfl] at H;exact H
            clear H
            have H:=H1
            clear H1
            by_cases c21:(wrap64 (26 - x9_15)) ≥ 2
            ·rw [if_pos c21] at H
             have c21b0:decide (2 ≤ (wrap64 (26 - x9_15))) = true:=decide_eq_true c21
             clear c21
             by_cases c22:x6_3.length < 140737488355328
             ·rw [if_pos c22] at H
              have LMc22:=Aside0.mk c22
              clear c22
              obtain ⟨y189,hy189⟩:∃ y_:List Int,y_ = (x6_3 ++ [(wrap64 ((wrap64 (97 + x9_15)) + (wrap64 (Int.tdiv (wrap64 (26 - x9_15)) 2)))) % 256]):=⟨_,rfl⟩
              replace H:(if (y189.length:Int) > 200 then (some ((⟨#[]⟩:ByteArray),18)) else (some (strOfNums y189,0))) = some (r1,r2):=by (have H2_:=(Option.bind_some _ _).symm.trans H;rw [hy189];with_reducible exact H2_)
              have Ny189:=Aside0.mk hy189
              clear hy189
              by_cases c23:(y189.length:Int) > 200
              ·rw [if_pos c23] at H
               have c23b0:decide (200 < (y189.length:Int)) = true:=decide_eq_true c23
               have c23b1:decide (200 < y189.length) = true:=decide_eq_true (by omega)
               clear c23
               simp only [Option.some.injEq,Prod.mk.injEq] at H
               obtain ⟨rfl,rfl⟩:=H
               go_wp2_with (((with_reducible refine gate_builtin (b:=.append) (xs:=#[.tmp 62,.tmp 71]) rfl ?_);at_builtin;refine Kd.R_append (Kd.int .u8) (w0:=w) w.heap.size rfl (.tmp 62) (.tmp 71) 132 5 (.int .u8 0) 1 rfl Try.underlying132 info5 rfl (by decide) (by omega) u6 x6_3 ((wrap64 ((wrap64 (97 + x9_15)) + (wrap64 (Int.tdiv (wrap64 (26 - x9_15)) 2)))) % 256) [.int .u8 ((wrap64 ((wrap64 (97 + x9_15)) + (wrap64 (Int.tdiv (wrap64 (26 - x9_15)) 2)))) % 256)] (fun _=>True) (fun _=>False) rfl rfl ?aP (fun _ hk=>hk.elim) ?aF ?aO ?aB ?aS ?aL ?_;(case aP=>exact rfl);(case aB=>exact (by with_reducible exact HB.out));(case aF=>exact (fun _ _=>trivial));(case aO=>exact HO_6.out);(case aS=>exact (below_size (by with_reducible exact HB.out)));(case aL=>have:=LMc22.out;omega);intro v190 w24 ho hb hg hat;rw [← Ny189.out] at ho;have n0_:=Aside0.mk hb;have n1_:=Aside0.mk ho;clear HB;clear HO_6;have HB:=n0_;have HO191:=n1_;clear n0_ n1_;clear ho hb hg hat;obtain ⟨Ao25,co25,eo25⟩:=Kd.R_slice HO191.out;subst eo25))
               go_ret2
               exact ⟨by rfl,HB.out⟩
              ·rw [if_neg c23] at H
               have c23b0:decide (200 < (y189.length:Int)) = false:=decide_eq_false c23
               have c23b1:decide (200 < y189.length) = false:=decide_eq_false (by omega)
               clear c23
               simp only [Option.some.injEq,Prod.mk.injEq] at H
               obtain ⟨rfl,rfl⟩:=H
               go_wp2_with (((with_reducible refine gate_builtin (b:=.append) (xs:=#[.tmp 62,.tmp 71]) rfl ?_);at_builtin;refine Kd.R_append (Kd.int .u8) (w0:=w) w.heap.size rfl (.tmp 62) (.tmp 71) 132 5 (.int .u8 0) 1 rfl Try.underlying132 info5 rfl (by decide) (by omega) u6 x6_3 ((wrap64 ((wrap64 (97 + x9_15)) + (wrap64 (Int.tdiv (wrap64 (26 - x9_15)) 2)))) % 256) [.int .u8 ((wrap64 ((wrap64 (97 + x9_15)) + (wrap64 (Int.tdiv (wrap64 (26 - x9_15)) 2)))) % 256)] (fun _=>True) (fun _=>False) rfl rfl ?aP (fun _ hk=>hk.elim) ?aF ?aO ?aB ?aS ?aL ?_;(case aP=>exact rfl);(case aB=>exact (by with_reducible exact HB.out));(case aF=>exact (fun _ _=>trivial));(case aO=>exact HO_6.out);(case aS=>exact (below_size (by with_reducible exact HB.out)));(case aL=>have:=LMc22.out;omega);intro v190 w26 ho hb hg hat;rw [← Ny189.out] at ho;have n0_:=Aside0.mk hb;have n1_:=Aside0.mk ho;clear HB;clear HO_6;have HB:=n0_;have HO191:=n1_;clear n0_ n1_;clear ho hb hg hat;obtain ⟨Ao27,co27,eo27⟩:=Kd.R_slice HO191.out;subst eo27;have hcv28:=own_string (P:=Try.prog) Try.underlying132 Try.underlying5 Try.underlying9 (Kd.own_of_R HO191.out)))
               go_ret2
               exact ⟨by rfl,HB.out⟩
             ·rw [if_neg c22] at H
              exact absurd H (by simp)
            ·rw [if_neg c21] at H
             have c21b0:decide (2 ≤ (wrap64 (26 - x9_15))) = false:=decide_eq_false c21
             clear c21
             by_cases c29:x6_3.length < 140737488355328
             ·rw [if_pos c29] at H
              have LMc29:=Aside0.mk c29
              clear c29
              obtain ⟨y192,hy192⟩:∃ y_:List Int,y_ = (x6_3 ++ [(wrap64 (97 + x9_15)) % 256]):=⟨_,rfl⟩
              replace H:(replica_Between.l0 kj15 a0 a1 y192 (wrap64 (x7_3 + 1)) true) = some (r1,r2):=by (rw [hy192];with_reducible exact H)
              have Ny192:=Aside0.mk hy192
              clear hy192
              have H':=Aside0.mk H
              clear H
              go_wp2_with (((with_reducible refine gate_builtin (b:=.append) (xs:=#[.tmp 73,.tmp 77]) rfl ?_);at_builtin;refine Kd.R_append (Kd.int .u8) (w0:=w) w.heap.size rfl (.tmp 73) (.tmp 77) 132 5 (.int .u8 0) 1 rfl Try.underlying132 info5 rfl (by decide) (by omega) u6 x6_3 ((wrap64 (97 + x9_15)) % 256) [.int .u8 ((wrap64 (97 + x9_15)) % 256)] (fun _=>True) (fun _=>False) rfl rfl ?aP (fun _ hk=>hk.elim) ?aF ?aO ?aB ?aS ?aL ?_;(case aP=>exact rfl);(case aB=>exact (by with_reducible exact HB.out));(case aF=>exact (fun _ _=>trivial));(case aO=>exact HO_6.out);(case aS=>exact (below_size (by with_reducible exact HB.out)));(case aL=>have:=LMc29.out;omega);intro v193 w30 ho hb hg hat;rw [← Ny192.out] at ho;have n0_:=Aside0.mk hb;have n1_:=Aside0.mk ho;clear HB;clear HO_6;have HB:=n0_;have HO194:=n1_;clear n0_ n1_;clear ho hb hg hat))
              go_roundg kj15
              case measure=>have:=HJ2.out;have:=HJ11.out;have:=HK3.out;have:=HJ15.out;omega
              case rel=>exact ⟨(y192),(wrap64 (x7_3 + 1)),(true),(by rfl),(by rfl),H',⟨by have:=HJ2.out;have:=HJ11.out;have:=HK3.out;have:=HJ15.out;omega⟩,⟨by exact HO194.out⟩,⟨HB.out⟩⟩
             ·rw [if_neg c29] at H
              exact absurd H (by simp)
           ·replace c20:=Bool.eq_false_iff.mpr c20
            subst c20
            have H1:(if 0 ≤ x7_3 then (if x7_3 < (a1.size:Int) then (if (wrap64 ((((bt a1 x7_3) - 97) % 256) - x9_15)) ≥ 2 then (if x6_3.length < 140737488355328 then ((some (x6_3 ++ [(wrap64 ((wrap64 (97 + x9_15)) + (wrap64 (Int.tdiv (wrap64 ((((bt a1 x7_3) - 97) % 256) - x9_15)) 2)))) % 256]:List Int)).bind fun y195=>(if (y195.length:Int) > 200 then (some ((⟨#[]⟩:ByteArray),18)) else (some (strOfNums y195,0)))) else (none)) else (if x6_3.length < 140737488355328 then (replica_Between.l0 kj15 a0 a1 (x6_3 ++ [(wrap64 (97 + x9_15)) % 256]) (wrap64 (x7_3 + 1)) (decide ((((bt a1 x7_3) - 97) % 256) > x9_15))) else (none))) else (none)) else (none)) = some (r1,r2):=by rw [if_neg (show ¬ (false = true) by decide)] at H;exact H
            clear H
            have H:=H1
            clear H1
            by_cases c31:0 ≤ x7_3
            ·rw [if_pos c31] at H
             have c31b0:decide (0 ≤ x7_3) = true:=decide_eq_true c31
             clear c31
             by_cases c32:x7_3 < (a1.size:Int)
             ·rw [if_pos c32] at H
              have c32b0:decide (x7_3 < (a1.size:Int)) = true:=decide_eq_true c32
              clear c32
              by_cases c34:(wrap64 ((((bt a1 x7_3) - 97) % 256) - x9_15)) ≥ 2
              ·rw [if_pos c34] at H
               have c34b0:decide (2 ≤ (wrap64 ((((bt a1 x7_3) - 97) % 256) - x9_15))) = true:=decide_eq_true c34
               clear c34
               by_cases c35:x6_3.length < 140737488355328
               ·rw [if_pos c35] at H
                have LMc35:=Aside0.mk c35
                clear c35
                obtain ⟨y195,hy195⟩:∃ y_:List Int,y_ = (x6_3 ++ [(wrap64 ((wrap64 (97 + x9_15)) + (wrap64 (Int.tdiv (wrap64 ((((bt a1 x7_3) - 97) % 256) - x9_15)) 2)))) % 256]):=⟨_,rfl⟩
                replace H:(if (y195.length:Int) > 200 then (some ((⟨#[]⟩:ByteArray),18)) else (some (strOfNums y195,0))) = some (r1,r2):=by (have H2_:=(Option.bind_some _ _).symm.trans H;rw [hy195];with_reducible exact H2_)
                have Ny195:=Aside0.mk hy195
                clear hy195
                by_cases c36:(y195.length:Int) > 200
                ·rw [if_pos c36] at H
                 have c36b0:decide (200 < (y195.length:Int)) = true:=decide_eq_true c36
                 have c36b1:decide (200 < y195.length) = true:=decide_eq_true (by omega)
                 clear c36
                 simp only [Option.some.injEq,Prod.mk.injEq] at H
                 obtain ⟨rfl,rfl⟩:=H
                 have p33:0 ≤ (x7_3:Int):=of_decide_eq_true (by assumption)
                 have q33:x7_3 < (a1.size:Int):=of_decide_eq_true (by assumption)
                 have hx33:=bt_at a1 x7_3
                 replace p33:=eq_true p33
                 replace q33:=eq_true q33
                 go_wp2_with (((with_reducible refine gate_builtin (b:=.append) (xs:=#[.tmp 62,.tmp 71]) rfl ?_);at_builtin;refine Kd.R_append (Kd.int .u8) (w0:=w) w.heap.size rfl (.tmp 62) (.tmp 71) 132 5 (.int .u8 0) 1 rfl Try.underlying132 info5 rfl (by decide) (by omega) u6 x6_3 ((wrap64 ((wrap64 (97 + x9_15)) + (wrap64 (Int.tdiv (wrap64 ((((bt a1 x7_3) - 97) % 256) - x9_15)) 2)))) % 256) [.int .u8 ((wrap64 ((wrap64 (97 + x9_15)) + (wrap64 (Int.tdiv (wrap64 ((((bt a1 x7_3) - 97) % 256) - x9_15)) 2)))) % 256)] (fun _=>True) (fun _=>False) rfl rfl ?aP (fun _ hk=>hk.elim) ?aF ?aO ?aB ?aS ?aL ?_;(case aP=>exact rfl);(case aB=>exact (by with_reducible exact HB.out));(case aF=>exact (fun _ _=>trivial));(case aO=>exact HO_6.out);(case aS=>exact (below_size (by with_reducible exact HB.out)));(case aL=>have:=LMc35.out;omega);intro v196 w37 ho hb hg hat;rw [← Ny195.out] at ho;have n0_:=Aside0.mk hb;have n1_:=Aside0.mk ho;clear HB;clear HO_6;have HB:=n0_;have HO197:=n1_;clear n0_ n1_;clear ho hb hg hat;obtain ⟨Ao38,co38,eo38⟩:=Kd.R_slice HO197.out;subst eo38))
                 go_ret2
                 exact ⟨by rfl,HB.out⟩
                ·rw [if_neg c36] at H
                 have c36b0:decide (200 < (y195.length:Int)) = false:=decide_eq_false c36
                 have c36b1:decide (200 < y195.length) = false:=decide_eq_false (by omega)
                 clear c36
                 simp only [Option.some.injEq,Prod.mk.injEq] at H
                 obtain ⟨rfl,rfl⟩:=H
                 have p33:0 ≤ (x7_3:Int):=of_decide_eq_true (by assumption)
                 have q33:x7_3 < (a1.size:Int):=of_decide_eq_true (by assumption)
                 have hx33:=bt_at a1 x7_3
                 replace p33:=eq_true p33
                 replace q33:=eq_true q33
                 go_wp2_with (((with_reducible refine gate_builtin (b:=.append) (xs:=#[.tmp 62,.tmp 71]) rfl ?_);at_builtin;refine Kd.R_append (Kd.int .u8) (w0:=w) w.heap.size rfl (.tmp 62) (.tmp 71) 132 5 (.int .u8 0) 1 rfl Try.underlying132 info5 rfl (by decide) (by omega) u6 x6_3 ((wrap64 ((wrap64 (97 + x9_15)) + (wrap64 (Int.tdiv (wrap64 ((((bt a1 x7_3) - 97) % 256) - x9_15)) 2)))) % 256) [.int .u8 ((wrap64 ((wrap64 (97 + x9_15)) + (wrap64 (Int.tdiv (wrap64 ((((bt a1 x7_3) - 97) % 256) - x9_15)) 2)))) % 256)] (fun _=>True) (fun _=>False) rfl rfl ?aP (fun _ hk=>hk.elim) ?aF ?aO ?aB ?aS ?aL ?_;(case aP=>exact rfl);(case aB=>exact (by with_reducible exact HB.out));(case aF=>exact (fun _ _=>trivial));(case aO=>exact HO_6.out);(case aS=>exact (below_size (by with_reducible exact HB.out)));(case aL=>have:=LMc35.out;omega);intro v196 w39 ho hb hg hat;rw [← Ny195.out] at ho;have n0_:=Aside0.mk hb;have n1_:=Aside0.mk ho;clear HB;clear HO_6;have HB:=n0_;have HO197:=n1_;clear n0_ n1_;clear ho hb hg hat;obtain ⟨Ao40,co40,eo40⟩:=Kd.R_slice HO197.out;subst eo40;have hcv41:=own_string (P:=Try.prog) Try.underlying132 Try.underlying5 Try.underlying9 (Kd.own_of_R HO197.out)))
                 go_ret2
                 exact ⟨by rfl,HB.out⟩
               ·rw [if_neg c35] at H
                exact absurd H (by simp)
              ·rw [if_neg c34] at H
               have c34b0:decide (2 ≤ (wrap64 ((((bt a1 x7_3) - 97) % 256) - x9_15))) = false:=decide_eq_false c34
               clear c34
               by_cases c42:x6_3.length < 140737488355328
               ·rw [if_pos c42] at H
                have LMc42:=Aside0.mk c42
                clear c42
                obtain ⟨y198,hy198⟩:∃ y_:List Int,y_ = (x6_3 ++ [(wrap64 (97 + x9_15)) % 256]):=⟨_,rfl⟩
                replace H:(replica_Between.l0 kj15 a0 a1 y198 (wrap64 (x7_3 + 1)) (decide ((((bt a1 x7_3) - 97) % 256) > x9_15))) = some (r1,r2):=by (rw [hy198];with_reducible exact H)
                have Ny198:=Aside0.mk hy198
                clear hy198
                have H':=Aside0.mk H
                clear H
                have p33:0 ≤ (x7_3:Int):=of_decide_eq_true (by assumption)
                have q33:x7_3 < (a1.size:Int):=of_decide_eq_true (by assumption)
                have hx33:=bt_at a1 x7_3
                replace p33:=eq_true p33
                replace q33:=eq_true q33
                go_wp2_with (((with_reducible refine gate_builtin (b:=.append) (xs:=#[.tmp 73,.tmp 77]) rfl ?_);at_builtin;refine Kd.R_append (Kd.int .u8) (w0:=w) w.heap.size rfl (.tmp 73) (.tmp 77) 132 5 (.int .u8 0) 1 rfl Try.underlying132 info5 rfl (by decide) (by omega) u6 x6_3 ((wrap64 (97 + x9_15)) % 256) [.int .u8 ((wrap64 (97 + x9_15)) % 256)] (fun _=>True) (fun _=>False) rfl rfl ?aP (fun _ hk=>hk.elim) ?aF ?aO ?aB ?aS ?aL ?_;(case aP=>exact rfl);(case aB=>exact (by with_reducible exact HB.out));(case aF=>exact (fun _ _=>trivial));(case aO=>exact HO_6.out);(case aS=>exact (below_size (by with_reducible exact HB.out)));(case aL=>have:=LMc42.out;omega);intro v199 w43 ho hb hg hat;rw [← Ny198.out] at ho;have n0_:=Aside0.mk hb;have n1_:=Aside0.mk ho;clear HB;clear HO_6;have HB:=n0_;have HO200:=n1_;clear n0_ n1_;clear ho hb hg hat))
                go_roundg kj15
                case measure=>have:=HJ2.out;have:=HJ11.out;have:=HK3.out;have:=HJ15.out;omega
                case rel=>exact ⟨(y198),(wrap64 (x7_3 + 1)),(decide ((((bt a1 x7_3) - 97) % 256) > x9_15)),(by rfl),(by rfl),H',⟨by have:=HJ2.out;have:=HJ11.out;have:=HK3.out;have:=HJ15.out;omega⟩,⟨by exact HO200.out⟩,⟨HB.out⟩⟩
               ·rw [if_neg c42] at H
                exact absurd H (by simp)
             ·rw [if_neg c32] at H
              exact absurd H (by simp)
            ·rw [if_neg c31] at H
             exact absurd H (by simp)
end
end Go.Proofs.Ytlcodfjlbhjkbaa.PDelta
end
section
namespace Go.Proofs.Ytlcodfjlbhjkbaa.PDelta
open Go.RowKit Go.Proofs.YtlcodfjlbhjkbaaW.PrintWords Go.Proofs.YtlcodfjlbhjkbaaW.PrintLast Go.Proofs.YtlcodfjlbhjkbaaW.PrintMore
theorem info9:(Try.prog.info? 9).map (fun i=>(i.zero,i.size,i.bytes)) = some (some (.string ⟨#[]⟩),1,16):=by kernel_rfl
theorem reps_str {w:World} {base:Nat} {ok:Nat → Prop}:∀ (xs:List ByteArray),Reps (Kd.string.M w base ok) 1 xs (xs.map Value.string)
 | []=>Reps.none _ _
 | x :: r=>by
  have h:=reps_str (w:=w) (base:=base) (ok:=ok) r
  refine ⟨by simp,fun j p hp=>?_⟩
  cases j with
  | zero =>
   obtain rfl:x = p:=by simpa using hp
   rfl
  | succ j =>
   have h2:=h.2 j p (by simpa using hp)
   rw [Nat.mul_one] at h2 ⊢
   simpa using h2
theorem C_str {w:World} {A:Option Addr} {xs:List ByteArray} (h:Kd.C Kd.string w A xs.length xs) (hp:0 < xs.length):∃ ad,A = some ad ∧ ∀ j u,(xs.map Value.string)[j]? = some u → w.cell? (ad.add j) = some u:=by
 obtain ⟨ad,e,_⟩:=Kd.at_string h 0 (Int.le_refl _) (by omega)
 refine ⟨ad,e,fun j u hu=>?_⟩
 rw [List.getElem?_map] at hu
 obtain ⟨x,hx,rfl⟩:=Option.map_eq_some_iff.1 hu
 have hj:j < xs.length:=(List.getElem?_eq_some_iff.1 hx).1
 obtain ⟨ad',e',h2⟩:=Kd.at_string h (j:Int) (by omega) (by omega)
 rw [e] at e'
 cases e'
 rw [Int.toNat_natCast] at h2
 rw [h2]
 have:rdOf ByteArray.empty xs (j:Int) = x:=by unfold rdOf;simp [List.getD_eq_getElem?_getD,hx]
 rw [this]
theorem own_strs (W:World) (base:Nat) (ys:List ByteArray) (cap:Nat) (rest:Array Value) (hb:base ≤ W.heap.size) (hc:ys.length ≤ cap) (hm:cap ≤ maxLen) (hr:rest.size = cap - ys.length) :
 Kd.R Kd.string 9 (W.alloc (.cells ((ys.map Value.string).toArray ++ rest) 9)) base (fun _=>True) (.slice (some ⟨W.heap.size,0,none⟩) ys.length cap) ys:=by
 refine ⟨fun _ _=>trivial,ys.map Value.string,⟨by simp [Kd.string,Kd.scalar],.inr ⟨W.heap.size,cap,_,rfl,hb,blk_new W _,hc,hm,?_,?_⟩⟩,reps_str ys⟩
 ·simp [Kd.string,Kd.scalar,hr]
  omega
 ·simp [Kd.string,Kd.scalar]
theorem run_app_cut {W:World} {base:Nat} {A B:Option Addr} {c:Nat} {xs news:List ByteArray} (hA:Kd.C Kd.string W A xs.length xs) (hB:Kd.C Kd.string W B news.length news) (hn:0 < news.length) (hl:xs.length + news.length ≤ 1000000) (hb:base ≤ W.heap.size) (ty:TypeId) (hA0:A = none → xs.length = 0) :
 ∃ v' w',(Builtin.append_ #[76,76] ty #[.slice A xs.length xs.length,.slice B news.length c]).run Try.prog W = .ok v' w' ∧ Kd.R Kd.string 9 w' base (fun _=>True) v' (xs ++ news) ∧ Below W.heap.size W w':=by
 obtain ⟨i,hi,hz⟩:=Option.map_eq_some_iff.1 info9
 simp only [Prod.mk.injEq] at hz
 obtain ⟨hz0,hz1,hz2⟩:=hz
 obtain ⟨b,rfl,hnews⟩:=C_str hB hn
 have hcap:=fun old=>grownCap_ge W (xs.length + news.length) old 9
 have hcm:=fun old=>grownCap_le_maxLen W (xs.length + news.length) old 9 (by simp only [maxLen];omega)
 have hzs:∀ n,(Builtin.zeroCells (Value.string ⟨#[]⟩).cells n).size = n:=fun n=>by rw [size_zeroCells];simp [Value.cells]
 have fin:∀ old,Kd.R Kd.string 9 (W.drew.alloc (.cells (((xs ++ news).map Value.string).toArray ++ Builtin.zeroCells (Value.string ⟨#[]⟩).cells (grownCap W (xs.length + news.length) old 9 - (xs.length + news.length))) 9)) base (fun _=>True) (.slice (some ⟨W.heap.size,0,none⟩) (xs.length + news.length) (grownCap W (xs.length + news.length) old 9)) (xs ++ news):=fun old=>by
  have:=own_strs W.drew base (xs ++ news) (grownCap W (xs.length + news.length) old 9) _ hb (by rw [List.length_append];exact hcap old) (hcm old) (by rw [hzs,List.length_append])
  rw [List.length_append] at this
  exact this
 cases A with
 | none =>
  have h0:xs = []:=List.eq_nil_of_length_eq_zero (hA0 rfl)
  subst h0
  have hr:=run_append_nil (P:=Try.prog) W 76 ty 9 i (.string ⟨#[]⟩) Try.underlying76 hi hz0 b news.length c (news.map Value.string) (by rw [hz1];simp) hnews hn (by omega) (by rw [hz2];omega)
  refine ⟨_,_,hr,?_,below_alloc (below_drew (Below.refl _ _)) _⟩
  have:=fin 0
  simpa using this
 | some a =>
  by_cases hx:0 < xs.length
  ·obtain ⟨a',ea,holds⟩:=C_str hA hx
   cases ea
   have hr:=run_append_grow (P:=Try.prog) W 76 ty 9 i (.string ⟨#[]⟩) Try.underlying76 hi hz0 a xs.length xs.length (xs.map Value.string) (by rw [hz1];simp) holds b news.length c (news.map Value.string) (by rw [hz1];simp) hnews (by omega) (by omega) (growslice_fits (by omega) (by rw [hz2];omega))
   refine ⟨_,_,hr,?_,below_alloc (below_drew (Below.refl _ _)) _⟩
   have:=fin xs.length
   simpa using this
  ·have h0:xs = []:=List.eq_nil_of_length_eq_zero (by omega)
   subst h0
   have hr:=run_append_grow (P:=Try.prog) W 76 ty 9 i (.string ⟨#[]⟩) Try.underlying76 hi hz0 a 0 0 [] (by simp) (fun j v hv=>by simp at hv) b news.length c (news.map Value.string) (by rw [hz1];simp) hnews (by omega) (by omega) (growslice_fits (by omega) (by rw [hz2];omega))
   refine ⟨_,_,hr,?_,below_alloc (below_drew (Below.refl _ _)) _⟩
   have:=fin 0
   simpa using this
section
variable {ops:Array Oper} {o:Oper} {a:Act} {Q:Exit → Act → World → Prop} {K:Act → World → Prop}
theorem step_app_cut (W:World) (hw0:Region.wanted o (yielded ops a.tmps) = true) (s x:Operand) (ho:o.op = .call { callee:=.builtin .append,args:=#[s,x],argTypes:=#[76,76] }) {base:Nat} {A B:Option Addr} {c:Nat} {xs news:List ByteArray}
 (hs:a.eval s = .slice A xs.length xs.length) (hx:a.eval x = .slice B news.length c) (hA:Kd.C Kd.string W A xs.length xs) (hB:Kd.C Kd.string W B news.length news) (hn:0 < news.length) (hl:xs.length + news.length ≤ 1000000) (hb:base ≤ W.heap.size) (hA0:A = none → xs.length = 0)
 (h:∀ v' w',Kd.R Kd.string 9 w' base (fun _=>True) v' (xs ++ news) → Below W.heap.size W w' → K (a.put o.dst v') w') :
 if Region.wanted o (yielded ops a.tmps) = true then Oper.wp Try.prog o a W K Q else K (a.put o.dst undef) W:=by
 rw [if_pos hw0]
 obtain ⟨v',w',hr,h1,h2⟩:=run_app_cut (c:=c) hA hB hn hl hb o.type hA0
 unfold Oper.wp execOp
 simp only [ho,resolve,invoke,builtin,Sem.run_bind,Sem.run_pure,Result.andThen_ok,List.map_toArray,List.map_cons,List.map_nil,hs,hx,hr]
 exact h v' w' h1 h2
end
structure BeS (w0:World) (gd:Nat) (raw:List Int) (u:Nat) (v:Value) (l:List ByteArray) (w:World):Prop where
 dice:DiceSt w0 gd raw u w
 lg:w0.heap.size ≤ gd
 row:Kd.R Kd.string 9 w w0.heap.size (fun _=>True) v l
 bel:Below w0.heap.size w0 w
section
variable {w0 w w1:World} {gd u:Nat} {raw:List Int} {v:Value} {l:List ByteArray}
theorem BeS.below (h:BeS w0 gd raw u v l w) (hb:Below w.heap.size w w1):BeS w0 gd raw u v l w1:=by
 obtain ⟨cs,hd⟩:=h.dice.typed
 exact ⟨h.dice.block (hb.block _ (blk_lt hd)),h.lg,Kd.R_below h.row hb,below_step h.bel hb⟩
theorem BeS.roll_calls (h:BeS w0 gd raw u v l w) (hu:u < 4611686018427387904) {n x:Int} (hf:rollF raw u n = some x) :
 Calls Try.prog 40 #[.pointer (some ⟨gd,0,none⟩),.int .i64 n] w fun e w'=>e = .returned (.int .i64 x) ∧ BeS w0 gd raw (rollU raw u) v l w':=by
 refine (PDelta.roll_calls w0 gd raw u n x w h.lg h.dice h.bel hu hf).mono ?_
 rintro e w' ⟨rfl,hd,⟨hs,hfr⟩,hb⟩
 obtain ⟨cs,hgd⟩:=h.dice.typed
 exact ⟨rfl,⟨hd,h.lg,r_keep h.row hgd (by decide) hfr,hb⟩⟩
theorem BeS.renew (h:BeS w0 gd raw u v l w) {v':Value} {l':List ByteArray} (hb:Below w.heap.size w w1) (hR:Kd.R Kd.string 9 w1 w0.heap.size (fun _=>True) v' l'):BeS w0 gd raw u v' l' w1:=by
 have h1:=h.below hb
 exact ⟨h1.dice,h1.lg,hR,h1.bel⟩
end
end Go.Proofs.Ytlcodfjlbhjkbaa.PDelta
end
section
namespace Go.Proofs.Ytlcodfjlbhjkbaa.PDelta
open Go.RowKit Go.Maps Go.Proofs.YtlcodfjlbhjkbaaW.PrintWords Go.Proofs.YtlcodfjlbhjkbaaW.PrintLast Go.Proofs.YtlcodfjlbhjkbaaW.PrintMore
def tokR (v:Value):Option (DataW Value × List MemPlace):=some (.held v,[])
def MapV (w:World) (b n:Nat) (g:Int → Option Value):Prop :=
 ∃ D,w.ownsMap Try.prog 3 tokR b n D ∧ ∀ i,Maps.has D (.int .i64 i) = (g i).isSome ∧ ∀ z,D.atKey (.int .i64 i) z = match g i with | some v=>.held v | none=>z
def putV (g:Int → Option Value) (i:Int) (v:Value):Int → Option Value:=fun j=>if j = i then some v else g j
theorem keyed3:Keyed Try.prog 3:=int_keyed Try.underlying3
theorem ne_key {i j:Int} (h:j ≠ i):(Lit.int .i64 j) ≠ .int .i64 i:=fun e=>h (by injection e)
theorem MapV.made (w:World):MapV (w.alloc (.map #[] 0)) w.heap.size 0 (fun _=>none) :=
 ⟨_,World.ownsMap_made w Try.prog 3 tokR,fun i=>⟨rfl,fun z=>rfl⟩⟩
theorem MapV.lt {w:World} {b n:Nat} {g:Int → Option Value} (h:MapV w b n g):b < w.heap.size:=by
 obtain ⟨D,h,_⟩:=h
 exact h.lt
theorem MapV.mono {w:World} {b n:Nat} {g:Int → Option Value} (h:MapV w b n g) {m:Nat} (hm:n ≤ m):MapV w b m g:=by
 obtain ⟨D,h,hg⟩:=h
 exact ⟨D,h.mono hm,hg⟩
theorem MapV.block {w w':World} {b n:Nat} {g:Int → Option Value} (h:MapV w b n g) (hb:w'.heap[b]? = w.heap[b]?):MapV w' b n g:=by
 obtain ⟨D,⟨es,c,h1,h2⟩,hg⟩:=h
 exact ⟨D,⟨es,c,hb.trans h1,h2⟩,hg⟩
theorem MapV.kept {w w':World} {b n:Nat} {g:Int → Option Value} {row:Option Nat} (h:MapV w b n g) (hg:w.grownBy w' row) (hne:some b ≠ row):MapV w' b n g:=h.block (hg.block b h.lt hne)
theorem MapV.map {w:World} {b n:Nat} {g:Int → Option Value} (h:MapV w b n g):∃ es c,w.heap[b]? = some (.map es c):=by
 obtain ⟨D,⟨es,c,h1,h2⟩,hg⟩:=h
 exact ⟨es,c,h1⟩
theorem MapV.store {w:World} {b n:Nat} {g:Int → Option Value} (h:MapV w b n g) {t e:TypeId} (ht:Try.prog.underlying t = some (.map 3 e)) (hn:n < maxLen) (i:Int) (v:Value) (hw:(Lit.int .i64 i).wf = true) :
 ∃ w',(Instr.mapUpdate t (.map (some b)) (.int .i64 i) v).run Try.prog w = .ok () w' ∧ MapV w' b (n + 1) (putV g i v) ∧ w.grownBy w' (some b) ∧ w'.heap.size = w.heap.size:=by
 obtain ⟨D,h,hg⟩:=h
 obtain ⟨w',hr,ho,ht'⟩:=h.store keyed3 ht hn (keyOf_int_mk Try.underlying3 hw) (show tokR v = some (.held v,[]) from rfl)
 have hD:=h.isMap
 have hsz:w'.heap.size = w.heap.size:=by
  obtain ⟨_,_,_,_,_,rfl⟩:=ht'
  simp [Go.ChangeMaps.setBlock]
 refine ⟨w',hr,⟨_,ho,fun j=>?_⟩,ht'.grown,hsz⟩
 by_cases hj:j = i
 ·subst hj
  refine ⟨?_,fun z=>?_⟩
  ·rw [has_put_same hD (by trivial)];simp [putV]
  ·rw [atKey_put_same hD (by trivial)];simp [putV]
 ·refine ⟨?_,fun z=>?_⟩
  ·rw [has_put_other (ne_key hj),(hg j).1];simp [putV,hj]
  ·rw [atKey_put_other (ne_key hj),(hg j).2];simp [putV,hj]
theorem MapV.look {w:World} {b n:Nat} {g:Int → Option Value} (h:MapV w b n g) {t e:TypeId} (ht:Try.prog.underlying t = some (.map 3 e)) {z:Value} (hz:(zeroValue e).run Try.prog w = .ok z w) (i:Int) (hw:(Lit.int .i64 i).wf = true) :
 (Instr.lookup t (.map (some b)) (.int .i64 i) false).run Try.prog w = .ok ((g i).getD z) w:=by
 obtain ⟨D,h,hg⟩:=h
 obtain ⟨v,ps,hr,hv⟩:=h.lookup keyed3 ht hz (show tokR z = some (.held z,[]) from rfl) (keyOf_int_mk Try.underlying3 hw)
 rw [hr]
 have h2:=(hg i).2 (.held z)
 simp only [tokR,Option.some.injEq,Prod.mk.injEq] at hv
 rw [← hv.1] at h2
 generalize g i = q at h2 ⊢
 cases q with
 | none=>exact congrArg (fun x=>Result.ok x w) (DataW.held.inj h2)
 | some u=>exact congrArg (fun x=>Result.ok x w) (DataW.held.inj h2)
theorem MapV.look_ok {w:World} {b n:Nat} {g:Int → Option Value} (h:MapV w b n g) {t e:TypeId} (ht:Try.prog.underlying t = some (.map 3 e)) {z:Value} (hz:(zeroValue e).run Try.prog w = .ok z w) (i:Int) (hw:(Lit.int .i64 i).wf = true) :
 (Instr.lookup t (.map (some b)) (.int .i64 i) true).run Try.prog w = .ok (.tuple #[(g i).getD z,.bool (g i).isSome]) w:=by
 obtain ⟨D,h,hg⟩:=h
 obtain ⟨v,ps,hr,hv⟩:=h.look_ok keyed3 ht hz (show tokR z = some (.held z,[]) from rfl) (keyOf_int_mk Try.underlying3 hw)
 rw [hr,(hg i).1]
 have h2:=(hg i).2 (.held z)
 simp only [tokR,Option.some.injEq,Prod.mk.injEq] at hv
 rw [← hv.1] at h2
 generalize g i = q at h2 ⊢
 cases q with
 | none=>exact congrArg (fun x=>Result.ok (Value.tuple #[x,.bool false]) w) (DataW.held.inj h2)
 | some u=>exact congrArg (fun x=>Result.ok (Value.tuple #[x,.bool true]) w) (DataW.held.inj h2)
section
variable {P:Program} {ops:Array Oper} {rest:List Oper} {o:Oper} {a:Act} {Q:Exit → Act → World → Prop}
theorem wp_look (w:World) (hgd:o.guard = none) (m x:Operand) (t e:TypeId) (hop:o.op = Op.lookup t m x false) (ht:Try.prog.underlying t = some (.map 3 e)) (z:Value) (hz:(zeroValue e).run Try.prog w = .ok z w)
 (b n:Nat) (g:Int → Option Value) (hm:a.eval m = .map (some b)) (h:MapV w b n g) (i:Int) (hx:a.eval x = .int .i64 i) (hw:(Lit.int .i64 i).wf = true)
 (v:Value) (hv:(g i).getD z = v) (hK:wpList Try.prog ops Q rest (a.put o.dst v) w):wpList Try.prog ops Q (o :: rest) a w:=by
 subst hv
 refine wpList_plain hgd fun K' hK'=>?_
 unfold Oper.wp
 simp [execOp,hop,hm,hx,h.look ht hz i hw,Result.andThen]
 exact hK' _ _ hK
theorem wp_look_ok (w:World) (hgd:o.guard = none) (m x:Operand) (t e:TypeId) (hop:o.op = Op.lookup t m x true) (ht:Try.prog.underlying t = some (.map 3 e)) (z:Value) (hz:(zeroValue e).run Try.prog w = .ok z w)
 (b n:Nat) (g:Int → Option Value) (hm:a.eval m = .map (some b)) (h:MapV w b n g) (i:Int) (hx:a.eval x = .int .i64 i) (hw:(Lit.int .i64 i).wf = true)
 (v:Value) (hv:(g i).getD z = v) (ok:Bool) (hok:(g i).isSome = ok) (hK:wpList Try.prog ops Q rest (a.put o.dst (.tuple #[v,.bool ok])) w):wpList Try.prog ops Q (o :: rest) a w:=by
 subst hv hok
 refine wpList_plain hgd fun K' hK'=>?_
 unfold Oper.wp
 simp [execOp,hop,hm,hx,h.look_ok ht hz i hw,Result.andThen]
 exact hK' _ _ hK
end
section
variable {ops:Array Oper} {o:Oper} {a:Act} {Q:Exit → Act → World → Prop} {K:Act → World → Prop}
theorem step_store (w:World) (hw0:Region.wanted o (yielded ops a.tmps) = true) (m x v:Operand) (t e:TypeId) (hop:o.op = Op.mapUpdate t m x v) (ht:Try.prog.underlying t = some (.map 3 e))
 (b n:Nat) (g:Int → Option Value) (hm:a.eval m = .map (some b)) (h:MapV w b n g) (hn:n < maxLen) (i:Int) (hx:a.eval x = .int .i64 i) (hw:(Lit.int .i64 i).wf = true) (u:Value) (hv:a.eval v = u)
 (hK:∀ w',MapV w' b (n + 1) (putV g i u) → w.grownBy w' (some b) → w'.heap.size = w.heap.size → K (a.put o.dst undef) w') :
 if Region.wanted o (yielded ops a.tmps) = true then Oper.wp Try.prog o a w K Q else K (a.put o.dst undef) w:=by
 rw [if_pos hw0]
 obtain ⟨w',hr,h1,h2,h3⟩:=h.store ht hn i u hw
 unfold Oper.wp execOp
 simp only [hop,hm,hx,hv,Sem.run_bind,Sem.run_pure,hr,Result.andThen_ok]
 exact hK w' h1 h2 h3
end
def RangeV (w:World) (b r n:Nat) (g:Int → Option Value) (left:Int → Bool) (cnt:Nat):Prop :=
 ∃ D lf,w.ranges Try.prog 3 tokR b r n D lf cnt ∧ (∀ i,Maps.has D (.int .i64 i) = (g i).isSome ∧ ∀ z,D.atKey (.int .i64 i) z = match g i with | some v=>.held v | none=>z) ∧ ∀ i,lf (.int .i64 i) = left i
theorem RangeV.map {w:World} {b r n:Nat} {g:Int → Option Value} {left:Int → Bool} {cnt:Nat} (h:RangeV w b r n g left cnt):MapV w b n g:=by
 obtain ⟨D,lf,h,hg,_⟩:=h
 exact ⟨D,h.owns,hg⟩
section
variable {ops:Array Oper} {rest:List Oper} {o:Oper} {a:Act} {Q:Exit → Act → World → Prop}
theorem wp_range (w:World) (hgd:o.guard = none) (m:Operand) (t e:TypeId) (hop:o.op = Op.range t m) (ht:Try.prog.underlying t = some (.map 3 e)) (b n:Nat) (g:Int → Option Value)
 (hm:a.eval m = .map (some b)) (h:MapV w b n g)
 (hK:∀ w' cnt,RangeV w' b w.heap.size n g (fun i=>(g i).isSome) cnt → w.grownBy w' none → w'.heap.size = w.heap.size + 1 → wpList Try.prog ops Q rest (a.put o.dst (.pointer (some ⟨w.heap.size,0,none⟩))) w') :
 wpList Try.prog ops Q (o :: rest) a w:=by
 obtain ⟨D,h,hg⟩:=h
 exact wpList_range_own w hgd m t hop 3 e keyed3 ht tokR b n D hm h (fun w' h1 h2 h3=>hK w' _ ⟨D,_,h1,hg,fun i=>(hg i).1⟩ h2 h3)
theorem wp_next (w:World) (hgd:o.guard = none) (it:Operand) (hop:o.op = Op.next it false) (b r n:Nat) (g:Int → Option Value) (left:Int → Bool) (cnt:Nat)
 (hit:a.eval it = .pointer (some ⟨r,0,none⟩)) (h:RangeV w b r n g left cnt)
 (hDone:(∀ i,left i = false) → wpList Try.prog ops Q rest (a.put o.dst (.tuple #[.bool false])) w)
 (hMore:∀ (i:Int) (v:Value) (w':World) (cnt':Nat),(Lit.int .i64 i).wf = true → left i = true → g i = some v → RangeV w' b r n g (fun j=>left j && !decide (j = i)) cnt' → cnt' < cnt →
  w.grownBy w' (some r) → w'.heap.size = w.heap.size → (Instr.entry (.pointer (some ⟨r,0,none⟩))).run Try.prog w' = .ok (.tuple #[.int .i64 i,v]) w' → wpList Try.prog ops Q rest (a.put o.dst (.tuple #[.bool true,.int .i64 i,v])) w') :
 wpList Try.prog ops Q (o :: rest) a w:=by
 obtain ⟨D,lf,h,hg,hl⟩:=h
 refine wpList_next_ranges w hgd it hop 3 keyed3 tokR (Value.int .i64) (fun v:Value=>v) (fun key kl hkey=>by obtain ⟨x,rfl,_⟩:=Maps.keyOf_int_inv Try.underlying3 hkey;exact ⟨x,rfl⟩) (fun v y hv=>⟨v,rfl⟩) b r n D lf cnt hit h
  (fun _ h0=>hDone fun i=>by rw [← hl i];exact h0 _) ?_
 intro x c kl y w' cnt' hkey hlk hv hat hrg hlt hgr hsz hen
 obtain ⟨x',ex,rfl,hwx⟩:=Maps.keyOf_int_inv Try.underlying3 hkey
 cases ex
 have hy:y.1 = .held c:=by
  simp only [tokR,Option.some.injEq] at hv
  rw [← hv]
 have hgx:g x = some c:=by
  have h2:=(hg x).2
  have h3:=h2 (.lit (.bool true))
  rw [hat,hy] at h3
  generalize g x = q at h3 ⊢
  cases q with
  | none=>cases h3
  | some u=>exact congrArg some (DataW.held.inj h3).symm
 refine hMore x c w' cnt' hwx (by rw [← hl x];exact hlk) hgx ⟨D,_,hrg,hg,fun j=>?_⟩ hlt hgr hsz hen
 rw [hl j]
 by_cases hj:j = x
 ·subst hj;simp [Lit.sameKey]
 ·simp [Lit.sameKey,hj]
end
structure Brd where
 its:List S87
 ats:List (Int × List S91)
def Brd.it (b:Brd) (i:Int):Option S87:=b.its.find? (fun x=>x.f0 == i)
def Brd.at (b:Brd) (i:Int):Option (List S91):=(b.ats.find? (fun x=>x.1 == i)).map (·.2)
def Brd.atD (b:Brd) (i:Int):List S91:=(b.at i).getD []
def Brd.putIt (b:Brd) (x:S87):Brd:=⟨b.its.filter (fun y=>y.f0 != x.f0) ++ [x],b.ats⟩
def Brd.putAt (b:Brd) (i:Int) (v:List S91):Brd:=⟨b.its,b.ats.filter (fun y=>y.1 != i) ++ [(i,v)]⟩
def belowF:Nat → Brd → Int → Int → Option Bool
 | 0,_,_,_=>none
 | k + 1,b,item,top=>if 0 < item then (if item = top then some true else match b.it item with | none=>some false | some x=>belowF k b x.f1 top) else some false
def playF (k:Nat):List S128 → Brd → Option Brd
 | [],b=>some b
 | o :: l,b =>
  if o.f2 = 1 then (attr_Raw.f (b.atD o.f3) [⟨o.f6,o.f7⟩]).bind fun r=>playF k l (b.putAt o.f3 r)
  else (belowF k b o.f4 o.f3).bind fun t=>if t = true then playF k l b else playF k l (b.putIt ⟨o.f3,o.f4,o.f5,[]⟩)
theorem find_put {α:Type} (key:α → Int) (l:List α) (x:α) (i:Int):(l.filter (fun y=>key y != key x) ++ [x]).find? (fun y=>key y == i) = if i = key x then some x else l.find? (fun y=>key y == i):=by
 rw [List.find?_append]
 by_cases h:i = key x
 ·subst h
  rw [if_pos rfl]
  have:(l.filter (fun y=>key y != key x)).find? (fun y=>key y == key x) = none:=by
   rw [List.find?_eq_none]
   intro y hy
   have:=(List.mem_filter.1 hy).2
   simpa using this
  rw [this]
  simp
 ·rw [if_neg h]
  have h1:([x].find? (fun y=>key y == i)) = none:=by simp [Ne.symm h]
  rw [h1,Option.or_none]
  induction l with
  | nil=>rfl
  | cons y r ih =>
   by_cases hy:key y = key x
   ·have h2:(key y == i) = false:=by rw [hy];simpa using (Ne.symm h)
    simp only [List.filter_cons,hy,bne_self_eq_false,Bool.false_eq_true,if_false,List.find?_cons]
    rw [← hy,h2]
    simpa [hy] using ih
   ·have h2:(key y != key x) = true:=by simpa using hy
    simp only [List.filter_cons,h2,if_true,List.find?_cons]
    rw [ih]
theorem it_putIt (b:Brd) (x:S87) (i:Int):(b.putIt x).it i = if i = x.f0 then some x else b.it i:=find_put (fun y:S87=>y.f0) b.its x i
theorem at_putAt (b:Brd) (j:Int) (v:List S91) (i:Int):(b.putAt j v).at i = if i = j then some v else b.at i:=by
 unfold Brd.at Brd.putAt
 have h:=find_put (fun y:Int × List S91=>y.1) b.ats (j,v) i
 simp only at h ⊢
 rw [h]
 split
 ·rfl
 ·rfl
theorem it_f0 {b:Brd} {i:Int} {x:S87} (h:b.it i = some x):x.f0 = i:=by
 have:=List.find?_some h
 simpa using this
theorem it_putAt (b:Brd) (j:Int) (v:List S91) (i:Int):(b.putAt j v).it i = b.it i:=rfl
def AtV (w:World) (lo:Nat) (v:Value) (r:List S91):Prop:=Kd.R k91 91 w lo (fun _=>True) v r
def ItAt (w:World) (lo:Nat) (v:Value) (x:S87):Prop :=
 (Lit.int .i64 x.f1).wf = true ∧ ∃ p u,v = .pointer (some ⟨p,0,none⟩) ∧ lo ≤ p ∧ w.heap[p]? = some (.cells #[.int .i64 x.f0,.int .i64 x.f1,.string x.f2,u] 87 (0,0)) ∧ AtV w lo u x.f3
structure BoardIs (w:World) (lo B Bi Ba n:Nat) (gi ga:Int → Option Value) (b:Brd):Prop where
 blk:w.heap[B]? = some (.cells #[.map (some Bi),.map (some Ba)] 144 (0,0))
 lB:lo ≤ B
 lBi:lo ≤ Bi
 lBa:lo ≤ Ba
 ne:Bi ≠ Ba
 mi:MapV w Bi n gi
 ma:MapV w Ba n ga
 it:∀ i,(gi i).isSome = (b.it i).isSome ∧ ∀ v x,gi i = some v → b.it i = some x → ItAt w lo v x
 at':∀ i,(ga i).isSome = (b.at i).isSome ∧ ∀ v r,ga i = some v → b.at i = some r → AtV w lo v r
theorem BoardIs.get {w:World} {lo B Bi Ba n:Nat} {gi ga:Int → Option Value} {b:Brd} (h:BoardIs w lo B Bi Ba n gi ga b) {i:Int} {x:S87} (hx:b.it i = some x):∃ v,gi i = some v ∧ ItAt w lo v x:=by
 have h1:=(h.it i).1
 rw [hx] at h1
 obtain ⟨v,hv⟩:=Option.isSome_iff_exists.1 h1
 exact ⟨v,hv,(h.it i).2 v x hv hx⟩
theorem BoardIs.no {w:World} {lo B Bi Ba n:Nat} {gi ga:Int → Option Value} {b:Brd} (h:BoardIs w lo B Bi Ba n gi ga b) {i:Int} (hx:b.it i = none):gi i = none:=by
 have h1:=(h.it i).1
 rw [hx] at h1
 cases hg:gi i with
 | none=>rfl
 | some v=>rw [hg] at h1;cases h1
theorem BoardIs.atD {w:World} {lo B Bi Ba n:Nat} {gi ga:Int → Option Value} {b:Brd} (h:BoardIs w lo B Bi Ba n gi ga b) (i:Int):AtV w lo ((ga i).getD (.slice none 0 0)) (b.atD i):=by
 have h1:=(h.at' i).1
 unfold Brd.atD
 cases hg:ga i with
 | none =>
  rw [hg] at h1
  cases hb:b.at i with
  | none=>exact Kd.R_nil _ _ _ _ _
  | some r=>rw [hb] at h1;cases h1
 | some v =>
  rw [hg] at h1
  cases hb:b.at i with
  | none=>rw [hb] at h1;cases h1
  | some r=>exact (h.at' i).2 v r hg hb
theorem AtV.reads {w:World} {lo:Nat} {v:Value} {r:List S91} (h:AtV w lo v r):∃ A c,v = .slice A r.length c ∧ r.length ≤ c ∧ Kd.C k91 w A r.length r:=by
 obtain ⟨A,c,rfl⟩:=Kd.R_slice h
 exact ⟨A,c,rfl,(Kd.R_reads' h).2.1,(Kd.R_reads' h).2.2⟩
theorem zero139 (w:World):(zeroValue 139).run Try.prog w = .ok (.pointer none) w:=by kernel_rfl
theorem zero24 (w:World):(zeroValue 24).run Try.prog w = .ok (.slice none 0 0) w:=by kernel_rfl
set_option maxRecDepth 100000 in
set_option maxHeartbeats 4000000 in
theorem below_calls (k:Nat) (w:World) (lo B Bi Ba n:Nat) (gi ga:Int → Option Value) (b:Brd) (hb:BoardIs w lo B Bi Ba n gi ga b) (item top:Int) (hw:(Lit.int .i64 item).wf = true) (r:Bool) (h:belowF k b item top = some r) :
 Calls Try.prog 116 #[.pointer (some ⟨B,0,none⟩),.int .i64 item,.int .i64 top] w fun e w'=>e = .returned (.bool r) ∧ w' = w:=by
 have HB:=Aside0.mk hb
 have H:=Aside0.mk h
 have HW:=Aside0.mk hw
 have c0:w.cell? ⟨B,0,none⟩ = some (.map (some Bi)):=(blk_cell hb.blk 0).trans rfl
 clear hb h hw
 go_enter Try.func116,Try.ntmps116
 go_wp2_with fail
 go_loopg [1] k (fun n v1 wr=>∃ it:Int,v1 = .int .i64 it ∧ Aside0 (belowF n b it top = some r) ∧ Aside0 ((Lit.int .i64 it).wf = true) ∧ wr = w)
 case atStart=>exact ⟨item,rfl,H,HW,rfl⟩
 case round =>
  obtain ⟨it,rfl,HI,HV,rfl⟩:=hrel
  have hI:=HI.out
  clear H HW HI
  cases gk with
  | zero=>cases hI
  | succ gl =>
   unfold belowF at hI
   by_cases d1:0 < it
   ·rw [if_pos d1] at hI
    have g1:decide (0 < it) = true:=decide_eq_true d1
    by_cases d2:it = top
    ·rw [if_pos d2] at hI
     have g2:(it == top) = true:=by simpa using d2
     cases hI
     clear d2
     go_wp2
     go_ret
     exact ⟨rfl,rfl⟩
    ·rw [if_neg d2] at hI
     have g2:(it == top) = false:=by simpa using d2
     cases hx:b.it it with
     | none =>
      rw [hx] at hI
      cases hI
      have e1:gi it = none:=HB.out.no hx
      have E1:Aside0 ((gi it).getD (.pointer none) = .pointer none):=⟨by rw [e1];rfl⟩
      have E2:Aside0 ((gi it).isSome = false):=⟨by rw [e1];rfl⟩
      clear hx e1 d2
      go_wp2_with (at_lookup;refine wp_look_ok _ rfl _ _ 141 139 rfl Try.underlying141 _ (zero139 _) Bi n gi rfl HB.out.mi it rfl HV.out _ E1.out _ E2.out ?_)
      go_ret
      exact ⟨rfl,rfl⟩
     | some x =>
      rw [hx] at hI
      have HI:=Aside0.mk hI
      obtain ⟨v,hv,hwx,p,u,rfl,hp,hblk,_⟩:=HB.out.get hx
      have E1:Aside0 ((gi it).getD (.pointer none) = .pointer (some ⟨p,0,none⟩)):=⟨by rw [hv];rfl⟩
      have E2:Aside0 ((gi it).isSome = true):=⟨by rw [hv];rfl⟩
      have c1:wr.cell? ⟨p,1,none⟩ = some (.int .i64 x.f1):=(blk_cell hblk 1).trans rfl
      have HWX:=Aside0.mk hwx
      clear hx hv d2 hI hblk hwx
      go_wp2_with (at_lookup;refine wp_look_ok _ rfl _ _ 141 139 rfl Try.underlying141 _ (zero139 _) Bi n gi rfl HB.out.mi it rfl HV.out _ E1.out _ E2.out ?_)
      go_roundg gl
      case measure=>omega
      case rel=>exact ⟨x.f1,rfl,HI,HWX,rfl⟩
   ·rw [if_neg d1] at hI
    have g1:decide (0 < it) = false:=decide_eq_false d1
    cases hI
    clear d1
    go_wp2
    go_ret
    exact ⟨rfl,rfl⟩
theorem AtV.move {w w1:World} {lo:Nat} {v:Value} {r:List S91} (h:AtV w lo v r) (hm:∀ (k:Nat) cells,w.heap[k]? = some (Obj.cells cells 91 (0,0)) → w1.heap[k]? = w.heap[k]?):AtV w1 lo v r :=
 Kd.R_mono (Kd.R_move (Kd.R_bound h) (fun k hk=>by
  obtain ⟨_,_,_,q,hq,cells,hc⟩:=hk
  have:q = 91:=by simpa [k91,Kd.iso,Kd.pair,Kd.string,Kd.scalar] using hq
  subst this
  exact hm k cells hc)) (fun _ _=>trivial)
theorem ItAt.move {w w1:World} {lo:Nat} {v:Value} {x:S87} (h:ItAt w lo v x) (hm:∀ (k:Nat) cells t,t = 91 ∨ t = 87 → w.heap[k]? = some (Obj.cells cells t (0,0)) → w1.heap[k]? = w.heap[k]?):ItAt w1 lo v x:=by
 obtain ⟨hw,p,u,hv,hp,hb,hu⟩:=h
 exact ⟨hw,p,u,hv,hp,(hm p _ 87 (.inr rfl) hb).trans hb,AtV.move hu (fun k cells=>hm k cells 91 (.inl rfl))⟩
theorem grown_move {w w1:World} {m:Nat} {es:Array MapEntry} {c:Nat} (hmb:w.heap[m]? = some (.map es c)) (hg:w.grownBy w1 (some m)):∀ (k:Nat) cells t,w.heap[k]? = some (Obj.cells cells t (0,0)) → w1.heap[k]? = w.heap[k]?:=by
 intro k cells t hk
 refine hg.block k (blk_lt hk) (fun e=>?_)
 cases e
 rw [hmb] at hk
 cases hk
section
variable {w w1:World} {lo B Bi Ba n:Nat} {gi ga:Int → Option Value} {b:Brd}
theorem BoardIs.below (h:BoardIs w lo B Bi Ba n gi ga b) (hb:Below w.heap.size w w1):BoardIs w1 lo B Bi Ba n gi ga b where
 blk:=(hb.block B (blk_lt h.blk)).trans h.blk
 lB:=h.lB
 lBi:=h.lBi
 lBa:=h.lBa
 ne:=h.ne
 mi:=h.mi.block (hb.block _ h.mi.lt)
 ma:=h.ma.block (hb.block _ h.ma.lt)
 it:=fun i=>⟨(h.it i).1,fun v x hv hx=>ItAt.move ((h.it i).2 v x hv hx) (fun k cells t _ hk=>hb.block k (blk_lt hk))⟩
 at':=fun i=>⟨(h.at' i).1,fun v r hv hr=>AtV.move ((h.at' i).2 v r hv hr) (fun k cells hk=>hb.block k (blk_lt hk))⟩
theorem BoardIs.alloc (h:BoardIs w lo B Bi Ba n gi ga b) (o:Obj):BoardIs (w.alloc o) lo B Bi Ba n gi ga b:=h.below (below_alloc (Below.refl _ _) o)
theorem BoardIs.drew (h:BoardIs w lo B Bi Ba n gi ga b):BoardIs w.drew lo B Bi Ba n gi ga b:=h.below (below_drew (Below.refl _ _))
theorem BoardIs.storeIt (h:BoardIs w lo B Bi Ba n gi ga b) {x:S87} {v:Value} (hm:MapV w1 Bi (n + 1) (putV gi x.f0 v)) (hg:w.grownBy w1 (some Bi)) (hx:ItAt w lo v x):BoardIs w1 lo B Bi Ba (n + 1) (putV gi x.f0 v) ga (b.putIt x):=by
 obtain ⟨es,c,hmb⟩:=h.mi.map
 have hmv:=grown_move hmb hg
 refine ⟨(hmv B _ _ h.blk).trans h.blk,h.lB,h.lBi,h.lBa,h.ne,hm,(h.ma.kept hg (fun e=>h.ne (by cases e;rfl))).mono (Nat.le_succ n),fun i=>?_,fun i=>⟨(h.at' i).1,fun v r hv hr=>AtV.move ((h.at' i).2 v r hv hr) (fun k cells hk=>hmv k cells 91 hk)⟩⟩
 rw [it_putIt]
 unfold putV
 by_cases hi:i = x.f0
 ·rw [if_pos hi,if_pos hi]
  exact ⟨rfl,fun v' x' hv' hx'=>by cases hv';cases hx';exact ItAt.move hx (fun k cells t _ hk=>hmv k cells t hk)⟩
 ·rw [if_neg hi,if_neg hi]
  exact ⟨(h.it i).1,fun v x hv hx=>ItAt.move ((h.it i).2 v x hv hx) (fun k cells t _ hk=>hmv k cells t hk)⟩
theorem BoardIs.storeAt (h:BoardIs w lo B Bi Ba n gi ga b) {j:Int} {r:List S91} {v:Value} (hm:MapV w1 Ba (n + 1) (putV ga j v)) (hg:w.grownBy w1 (some Ba)) (hx:AtV w lo v r):BoardIs w1 lo B Bi Ba (n + 1) gi (putV ga j v) (b.putAt j r):=by
 obtain ⟨es,c,hmb⟩:=h.ma.map
 have hmv:=grown_move hmb hg
 refine ⟨(hmv B _ _ h.blk).trans h.blk,h.lB,h.lBi,h.lBa,h.ne,(h.mi.kept hg (fun e=>h.ne (by cases e;rfl))).mono (Nat.le_succ n),hm,fun i=>?_,fun i=>?_⟩
 ·rw [it_putAt]
  exact ⟨(h.it i).1,fun v x hv hx=>ItAt.move ((h.it i).2 v x hv hx) (fun k cells t _ hk=>hmv k cells t hk)⟩
 ·rw [at_putAt]
  unfold putV
  by_cases hi:i = j
  ·rw [if_pos hi,if_pos hi]
   exact ⟨rfl,fun v' x' hv' hx'=>by cases hv';cases hx';exact AtV.move hx (fun k cells hk=>hmv k cells 91 hk)⟩
  ·rw [if_neg hi,if_neg hi]
   exact ⟨(h.at' i).1,fun v r hv hr=>AtV.move ((h.at' i).2 v r hv hr) (fun k cells hk=>hmv k cells 91 hk)⟩
theorem BoardIs.new (w:World):BoardIs (((w.alloc (.map #[] 0)).alloc (.map #[] 0)).alloc (.cells #[.map (some w.heap.size),.map (some (w.heap.size + 1))] 144)) w.heap.size (w.heap.size + 2) w.heap.size (w.heap.size + 1) 0 (fun _=>none) (fun _=>none) ⟨[],[]⟩ where
 blk:=by
  have:=blk_new ((w.alloc (.map #[] 0)).alloc (.map #[] 0)) (.cells #[.map (some w.heap.size),.map (some (w.heap.size + 1))] 144)
  simpa using this
 lB:=by omega
 lBi:=Nat.le_refl _
 lBa:=by omega
 ne:=by omega
 mi:=by
  have h1:=MapV.made w
  have h2:w.heap.size < (w.alloc (.map #[] 0)).heap.size:=by simp
  refine (h1.block (w':=(w.alloc (.map #[] 0)).alloc (.map #[] 0)) ?_).block ?_
  ·exact (below_alloc (Below.refl _ _) _).block _ h2
  ·exact (below_alloc (Below.refl _ _) _).block _ (by simp;omega)
 ma:=by
  have h1:=MapV.made (w.alloc (.map #[] 0))
  have e:(w.alloc (.map #[] 0)).heap.size = w.heap.size + 1:=by simp
  rw [e] at h1
  refine h1.block ?_
  exact (below_alloc (Below.refl _ _) _).block _ (by simp)
 it:=fun i=>⟨rfl,fun v x hv=>by cases hv⟩
 at':=fun i=>⟨rfl,fun v x hv=>by cases hv⟩
theorem BoardIs.mono (h:BoardIs w lo B Bi Ba n gi ga b) {m:Nat} (hm:n ≤ m):BoardIs w lo B Bi Ba m gi ga b:={ h with mi:=h.mi.mono hm,ma:=h.ma.mono hm }
theorem BoardIs.look (h:BoardIs w lo B Bi Ba n gi ga b) (i:Int) (hw:(Lit.int .i64 i).wf = true) {v:Value} (hv:(ga i).getD (.slice none 0 0) = v):(Instr.lookup 142 (.map (some Ba)) (.int .i64 i) false).run Try.prog w = .ok v w:=by
 rw [← hv]
 exact h.ma.look Try.underlying142 (zero24 _) i hw
end
theorem raw1_calls (A0:Option Addr) (c0:Nat) (l0:List S91) (A1:Option Addr) (c1:Nat) (x:S91) (r:List S91) (w:World) (hr0:Kd.C k91 w A0 l0.length l0) (hc0:l0.length ≤ c0) (hr1:Kd.C k91 w A1 1 [x]) (hc1:1 ≤ c1) (h:attr_Raw.f l0 [x] = some r) :
 Calls Try.prog 115 #[.slice A0 l0.length c0,.slice A1 1 c1] w fun e w'=>∃ v0_:Value,e = .returned (v0_) ∧ Kd.R k91 91 w' w.heap.size (fun _=>True) v0_ r ∧ Below w.heap.size w w' :=
 attr_Raw.calls A0 c0 l0 A1 c1 [x] r w hr0 hc0 hr1 hc1 h
set_option maxRecDepth 100000 in
set_option maxHeartbeats 4000000 in
theorem play_calls (k:Nat) (A0:Option Addr) (c0:Nat) (l:List S128) (w:World) (hr0:Kd.C k128 w A0 l.length l) (hc0:l.length ≤ c0) (hok:∀ o ∈ l,(Lit.int .i64 o.f3).wf = true ∧ (Lit.int .i64 o.f4).wf = true) (bE:Brd) (h:playF k l ⟨[],[]⟩ = some bE) :
 Calls Try.prog 76 #[.slice A0 l.length c0] w fun e w'=>∃ B Bi Ba n gi ga,e = .returned (.pointer (some ⟨B,0,none⟩)) ∧ BoardIs w' w.heap.size B Bi Ba n gi ga bE ∧ Below w.heap.size w w':=by
 have hmm:=@run_makeMap Try.prog
 have HR0:=Aside0.mk hr0
 have HC0:=Aside0.mk hc0
 have HOK:=Aside0.mk hok
 have H:=Aside0.mk h
 have HMX:Aside0 (l.length ≤ 9223372036854775807):=⟨hr0.2.1⟩
 clear hr0 hc0 hok h
 go_enter Try.func76,Try.ntmps76
 go_wp2_with fail
 go_loopg [12] l.length (fun n v12 wr=>∃ (i:Nat) (gi ga:Int → Option Value) (b:Brd),v12 = .int .i64 (i:Int) ∧ Aside0 (n + i = l.length) ∧ Aside0 (playF k (l.drop i) b = some bE) ∧ Aside0 (Below w.heap.size w wr) ∧ Aside0 (BoardIs wr w.heap.size (w.heap.size + 1 + 1) w.heap.size (w.heap.size + 1) i gi ga b))
 case atStart=>exact ⟨0,_,_,_,rfl,⟨rfl⟩,H,⟨(below_alloc (below_alloc (below_alloc (Below.refl _ _) _) _) _)⟩,⟨BoardIs.new w⟩⟩
 case round =>
  obtain ⟨i,gi,ga,b,rfl,HI,HP,HB,HBD⟩:=hrel
  clear H
  by_cases d2:i < l.length
  rotate_left
  ·have g1:decide ((i:Int) < (l.length:Int)) = false:=decide_eq_false (by omega)
   have g1':decide (i < l.length) = false:=decide_eq_false d2
   have HE:Aside0 (b = bE):=⟨by have h1:=HP.out;rw [List.drop_eq_nil_of_le (by omega)] at h1;exact Option.some.inj h1⟩
   clear d2
   go_wp2
   go_ret
   exact ⟨_,_,_,_,_,_,rfl,by rw [← HE.out];exact HBD.out,HB.out⟩
  have g1:decide ((i:Int) < (l.length:Int)) = true:=decide_eq_true (by omega)
  have g1':decide (i < l.length) = true:=decide_eq_true d2
  have q1:(i:Int) < (l.length:Int):=by omega
  have q1':i < l.length:=d2
  obtain ⟨gl,rfl⟩:∃ gl,gk = gl + 1:=⟨gk - 1,by have:=HI.out;omega⟩
  obtain ⟨ad0,e0,x0,x1,x2,x3,x4,x5,x6,x7⟩:=at_T128 (Kd.C_below HR0.out HB.out) (i:Int) (by omega) q1
  cases e0
  simp only [Int.toNat_natCast] at x0 x1 x2 x3 x4 x5 x6 x7
  obtain ⟨o,ho⟩:∃ o,o = rd_T128 l (i:Int):=⟨_,rfl⟩
  rw [← ho] at x0 x1 x2 x3 x4 x5 x6 x7
  have hgo:l[i]'d2 = o:=by rw [ho,rd_T128,List.getD_eq_getElem?_getD];simp [d2]
  have HOO:Aside0 ((Lit.int .i64 o.f3).wf = true ∧ (Lit.int .i64 o.f4).wf = true):=⟨HOK.out o (by rw [← hgo];exact List.getElem_mem d2)⟩
  have HPO:Aside0 (playF k (o :: l.drop (i + 1)) b = some bE):=⟨by rw [← hgo,List.getElem_cons_drop d2];exact HP.out⟩
  clear ho hgo HP
  go_upto_region 5 with (fail)
  obtain ⟨w2,hw2⟩:∃ W,W = wr.alloc (Obj.cells #[.int .i64 o.f0,.int .i64 o.f1,.int .i64 o.f2,.int .i64 o.f3,.int .i64 o.f4,.string o.f5,.string o.f6,.string o.f7] 128):=⟨_,rfl⟩
  obtain ⟨g,hgn⟩:∃ g,g = wr.heap.size:=⟨_,rfl⟩
  have HG1:Aside0 (w2.heap[g]? = some (.cells #[.int .i64 o.f0,.int .i64 o.f1,.int .i64 o.f2,.int .i64 o.f3,.int .i64 o.f4,.string o.f5,.string o.f6,.string o.f7] 128 (0,0))):=⟨by rw [hw2,hgn];exact blk_new wr _⟩
  have HBD1:Aside0 (BoardIs w2 w.heap.size (w.heap.size + 1 + 1) w.heap.size (w.heap.size + 1) i gi ga b):=⟨by rw [hw2];exact HBD.out.alloc _⟩
  have HB1:Aside0 (Below w.heap.size w w2):=⟨by rw [hw2];exact below_alloc HB.out _⟩
  rw [← hw2,← hgn]
  clear hw2 hgn HBD HB x0 x1 x2 x3 x4 x5 x6 x7
  have hx2:w2.cell? ⟨g,2,none⟩ = some (.int .i64 o.f2):=(blk_cell HG1.out 2).trans rfl
  have wk:wrap64 ((i:Int) + 1) = (i:Int) + 1:=by have:=HMX.out;unfold wrap64;omega
  have HWK:=Aside0.mk wk
  clear wk
  by_cases d1:o.f2 = 1
  ·have t1:(o.f2 == 1) = true:=by simpa using d1
   have hP:=HPO.out
   rw [playF,if_pos d1] at hP
   obtain ⟨r,hr,hP⟩:=Option.bind_eq_some_iff.1 hP
   have HP:=Aside0.mk hP
   have HRW:=Aside0.mk hr
   obtain ⟨r0,hr0⟩:∃ r0,r0 = b.atD o.f3:=⟨_,rfl⟩
   obtain ⟨v0,hv0⟩:∃ v0,v0 = (ga o.f3).getD (.slice none 0 0):=⟨_,rfl⟩
   have HV0:=HBD1.out.atD o.f3
   rw [← hv0,← hr0] at HV0
   rw [← hr0] at HRW
   obtain ⟨AA,cA,ev,hcA,hCA⟩:=AtV.reads HV0
   subst ev
   have HLV:Aside0 ((ga o.f3).getD (.slice none 0 0) = .slice AA r0.length cA):=⟨hv0.symm⟩
   have HCA:=Aside0.mk (And.intro hcA (Kd.C_drew hCA))
   have HBD2:=Aside0.mk HBD1.out.drew
   have HG2:=Aside0.mk (blk_drew HG1.out)
   have HB2:=Aside0.mk (below_drew HB1.out)
   have HN:Aside0 (w.heap.size ≤ w2.drew.heap.size):=⟨HB1.out.size⟩
   clear d1 hP hr hr0 hv0 HV0 hcA hCA HPO HBD1 HB1
   go_upto_region 6 with (fail)
   refine start_ (n:=21) (S:=fun w'=>w'.cell? ⟨w.heap.size + 1 + 1,1,none⟩ = some (.map (some (w.heap.size + 1))) ∧ w'.cell? ⟨g,3,none⟩ = some (.int .i64 o.f3) ∧ w'.cell? ⟨g,6,none⟩ = some (.string o.f6) ∧ w'.cell? ⟨g,7,none⟩ = some (.string o.f7) ∧ Sem.run Try.prog (Instr.lookup 142 (.map (some (w.heap.size + 1))) (.int .i64 o.f3) false) w' = .ok (.slice AA r0.length cA) w') (ds:=[20]) #[false,false,false,false,false,false,false,false,false,false,false,false,false,false,false,false,false,false,false,false,false] (by kernel_rfl) rfl rfl ⟨((blk_cell HBD2.out.blk 1).trans rfl),((blk_cell HG2.out 3).trans rfl),((blk_cell HG2.out 6).trans rfl),((blk_cell HG2.out 7).trans rfl),(HBD2.out.look o.f3 HOO.out.1 HLV.out)⟩ (fun hHeld=>?_)
   refine pure_ (i:=0) (N:=some 20) (v:=?_) (a':=?_) (bm 1 21) rfl rfl (by kernel_rfl) (fun _ _ _ h=>h) (Or.inl ⟨by rfl,?_⟩) ?_ ?_
   rotate_left
   ·intro w'
    go_simp
    with_reducible rfl
   rotate_left
   ·simp only [Act.put,sA,sB,sC,i64_w,i32_w]
    rfl
   refine pure_ (i:=1) (N:=some 21) (v:=?_) (a':=?_) (bm 3 21) rfl rfl (by kernel_rfl) (fun _ _ _ h=>h) (Or.inl ⟨by rfl,?_⟩) ?_ ?_
   rotate_left
   ·intro w'
    go_simp
    with_reducible rfl
   rotate_left
   ·simp only [Act.put,sA,sB,sC,i64_w,i32_w]
    rfl
   refine pure_ (i:=2) (N:=some 22) (v:=?_) (a':=?_) (bm 7 21) rfl rfl (by kernel_rfl) (fun _ _ _ h=>h) (Or.inl ⟨by rfl,?_⟩) ?_ ?_
   rotate_left
   ·intro w'
    go_simp
    with_reducible rfl
   rotate_left
   ·simp only [Act.put,sA,sB,sC,i64_w,i32_w]
    rfl
   refine pure_ (i:=4) (N:=some 24) (v:=?_) (a':=?_) (bm 23 21) rfl rfl (by kernel_rfl) (fun _ _ _ h=>h) (Or.inl ⟨by rfl,?_⟩) ?_ ?_
   rotate_left
   ·intro w'
    go_simp
    with_reducible rfl
   rotate_left
   ·simp only [Act.put,sA,sB,sC,i64_w,i32_w]
    rfl
   refine pure_ (i:=6) (N:=some 26) (v:=?_) (a':=?_) (bm 87 21) rfl rfl (by kernel_rfl) (fun _ _ _ h=>h) (Or.inl ⟨by rfl,?_⟩) ?_ ?_
   rotate_left
   ·intro w'
    go_simp
    with_reducible rfl
   rotate_left
   ·simp only [Act.put,sA,sB,sC,i64_w,i32_w]
    rfl
   refine pure_ (i:=7) (N:=some 27) (v:=?_) (a':=?_) (bm 215 21) rfl rfl (by kernel_rfl) (fun _ _ _ h=>h) (Or.inl ⟨by rfl,?_⟩) ?_ ?_
   rotate_left
   ·intro w'
    go_simp
    with_reducible rfl
   rotate_left
   ·simp only [Act.put,sA,sB,sC,i64_w,i32_w]
    rfl
   refine pure_ (i:=8) (N:=some 28) (v:=?_) (a':=?_) (bm 471 21) rfl rfl (by kernel_rfl) (fun _ _ _ h=>h) (Or.inl ⟨by rfl,?_⟩) ?_ ?_
   rotate_left
   ·intro w'
    go_simp
    with_reducible rfl
   rotate_left
   ·simp only [Act.put,sA,sB,sC,i64_w,i32_w]
    rfl
   refine pure_ (i:=10) (N:=some 30) (v:=?_) (a':=?_) (bm 1495 21) rfl rfl (by kernel_rfl) (fun _ _ _ h=>h) (Or.inl ⟨by rfl,?_⟩) ?_ ?_
   rotate_left
   ·intro w'
    go_simp
    with_reducible rfl
   rotate_left
   ·simp only [Act.put,sA,sB,sC,i64_w,i32_w]
    rfl
   refine pure_ (i:=13) (N:=some 33) (v:=?_) (a':=?_) (bm 9687 21) rfl rfl (by kernel_rfl) (fun _ _ _ h=>h) (Or.inl ⟨by rfl,?_⟩) ?_ ?_
   rotate_left
   ·intro w'
    go_simp
    with_reducible rfl
   rotate_left
   ·simp only [Act.put,sA,sB,sC,i64_w,i32_w]
    rfl
   refine pure_ (i:=15) (N:=some 35) (v:=?_) (a':=?_) (bm 42455 21) rfl rfl (by kernel_rfl) (fun _ _ _ h=>h) (Or.inl ⟨by rfl,?_⟩) ?_ ?_
   rotate_left
   ·intro w'
    go_simp
    with_reducible rfl
   rotate_left
   ·simp only [Act.put,sA,sB,sC,i64_w,i32_w]
    rfl
   refine take_ (i:=3) (N:=some 23) (v:=?_) (a':=?_) (bm 42463 21) rfl rfl (by kernel_rfl) (fun _ _ _ h=>h) (Or.inl ⟨by rfl,?_⟩) hHeld ?_ ?_
   rotate_left
   ·rintro w' ⟨s0,s1,s2,s3,s4⟩
    go_simp
    with_reducible rfl
   rotate_left
   ·simp only [Act.put,sA,sB,sC,i64_w,i32_w]
    rfl
   refine take_ (i:=5) (N:=some 25) (v:=?_) (a':=?_) (bm 42495 21) rfl rfl (by kernel_rfl) (fun _ _ _ h=>h) (Or.inl ⟨by rfl,?_⟩) hHeld ?_ ?_
   rotate_left
   ·rintro w' ⟨s0,s1,s2,s3,s4⟩
    go_simp
    with_reducible rfl
   rotate_left
   ·simp only [Act.put,sA,sB,sC,i64_w,i32_w]
    rfl
   refine take_ (i:=9) (N:=some 29) (v:=?_) (a':=?_) (bm 43007 21) rfl rfl (by kernel_rfl) (fun _ _ _ h=>h) (Or.inl ⟨by rfl,?_⟩) hHeld ?_ ?_
   rotate_left
   ·rintro w' ⟨s0,s1,s2,s3,s4⟩
    go_simp
    with_reducible rfl
   rotate_left
   ·simp only [Act.put,sA,sB,sC,i64_w,i32_w]
    rfl
   refine take_ (i:=11) (N:=some 31) (v:=?_) (a':=?_) (bm 45055 21) rfl rfl (by kernel_rfl) (fun _ _ _ h=>h) (Or.inl ⟨by rfl,?_⟩) hHeld ?_ ?_
   rotate_left
   ·rintro w' ⟨s0,s1,s2,s3,s4⟩
    go_simp
    with_reducible rfl
   rotate_left
   ·simp only [Act.put,sA,sB,sC,i64_w,i32_w]
    rfl
   refine take_ (i:=12) (N:=some 32) (v:=?_) (a':=?_) (bm 49151 21) rfl rfl (by kernel_rfl) (fun _ _ _ h=>h) (Or.inl ⟨by rfl,?_⟩) hHeld ?_ ?_
   rotate_left
   ·rintro w' ⟨s0,s1,s2,s3,s4⟩
    go_simp
    with_reducible rfl
   rotate_left
   ·simp only [Act.put,sA,sB,sC,i64_w,i32_w]
    rfl
   refine take_ (i:=14) (N:=some 34) (v:=?_) (a':=?_) (bm 65535 21) rfl rfl (by kernel_rfl) (fun _ _ _ h=>h) (Or.inl ⟨by rfl,?_⟩) hHeld ?_ ?_
   rotate_left
   ·rintro w' ⟨s0,s1,s2,s3,s4⟩
    go_simp
    with_reducible rfl
   rotate_left
   ·simp only [Act.put,sA,sB,sC,i64_w,i32_w]
    rfl
   refine take_ (i:=16) (N:=some 36) (v:=?_) (a':=?_) (bm 131071 21) rfl rfl (by kernel_rfl) (fun _ _ _ h=>h) (Or.inl ⟨by rfl,?_⟩) hHeld ?_ ?_
   rotate_left
   ·rintro w' ⟨s0,s1,s2,s3,s4⟩
    go_simp
    with_reducible rfl
   rotate_left
   ·simp only [Act.put,sA,sB,sC,i64_w,i32_w]
    rfl
   refine pure_ (i:=17) (N:=some 37) (v:=?_) (a':=?_) (bm 262143 21) rfl rfl (by kernel_rfl) (fun _ _ _ h=>h) (Or.inl ⟨by rfl,?_⟩) ?_ ?_
   rotate_left
   ·intro w'
    go_simp
    with_reducible rfl
   rotate_left
   ·simp only [Act.put,sA,sB,sC,i64_w,i32_w]
    rfl
   refine one_ (i:=18) (N:=some 38) (bm 524287 21) rfl rfl (by kernel_rfl) (by decide) (fun K hK=>?_)
   refine Kd.R_lit_step k91 (w0:=w2.drew) w2.drew.heap.size 91 (by rfl) (N:=38) rfl (xs:=[⟨o.f6,o.f7⟩]) (inner:=[.string o.f6,.string o.f7]) (ok:=fun _=>True) (okp:=fun _=>True) ?hr ?hp (fun _ hk=>hk) trivial (Below.refl _ _) (Nat.le_refl _) (by simp) ?_
   case hr=>(go_simp;done)
   case hp=>exact Reps.snoc (ps:=[]) (cs:=[]) (Reps.none _ _) (k91_mkM _ _ _ ⟨o.f6,o.f7⟩) rfl
   intro v3_ w3_ hR3 hB3 hg3 hn3
   obtain ⟨A3,c3,e3⟩:∃ A c,v3_ = .slice A 1 c:=Kd.R_slice hR3
   subst e3
   have HL3:Aside0 (1 ≤ c3 ∧ Kd.C k91 w3_ A3 1 [(⟨o.f6,o.f7⟩:S91)]):=⟨(Kd.R_reads' hR3).2.1,(Kd.R_reads' hR3).2.2⟩
   have HBD3:=Aside0.mk (HBD2.out.below hB3)
   have HG3:=Aside0.mk (blk_grown HG2.out hg3 (by simp))
   have HB3:=Aside0.mk (below_then HB2.out HN.out hB3)
   have HC3:=Aside0.mk (Kd.C_below HCA.out.2 hB3)
   have HN3:Aside0 (w.heap.size ≤ w3_.heap.size):=⟨Nat.le_trans HN.out hB3.size⟩
   clear hR3 hB3 hg3 hn3
   refine hK.out _ _ ⟨((blk_cell HBD3.out.blk 1).trans rfl),((blk_cell HG3.out 3).trans rfl),((blk_cell HG3.out 6).trans rfl),((blk_cell HG3.out 7).trans rfl),(HBD3.out.look o.f3 HOO.out.1 HLV.out)⟩ (fun hHeld=>?_)
   clear hK K
   refine norm_ (a':=?_) ?_ ?_
   rotate_left
   ·show Act.put _ (some 38) _ = _
    simp only [Act.put,sA,sB,sC,i64_w,i32_w]
    rfl
   refine one_ (i:=19) (N:=some 39) (bm 1048575 21) rfl rfl (by kernel_rfl) (by decide) (fun K hK=>?_)
   refine goes_ Try.func115 (by kernel_rfl) rfl #[.slice AA r0.length cA,.slice A3 1 c3] (by rfl) rfl rfl (by simp only [List.map_toArray,List.map_cons,List.map_nil];rfl) ?_
   with_reducible refine (raw1_calls AA cA r0 A3 c3 ⟨o.f6,o.f7⟩ r _ HC3.out HCA.out.1 HL3.out.2 HL3.out.1 HRW.out).mono ?_
   rintro e4 w4_ ⟨v4_,rfl,hR4,hB4⟩
   refine ⟨_,rfl,?_⟩
   have HBD4:=Aside0.mk (HBD3.out.below hB4)
   have HG4:=Aside0.mk ((hB4.block g (blk_lt HG3.out)).trans HG3.out)
   have HB4:=Aside0.mk (below_then HB3.out HN3.out hB4)
   have HR4:=Aside0.mk (Kd.R_lower hR4 HN3.out)
   have HN4:Aside0 (w.heap.size ≤ w4_.heap.size):=⟨Nat.le_trans HN3.out hB4.size⟩
   clear hR4 hB4
   refine hK.out _ _ ⟨((blk_cell HBD4.out.blk 1).trans rfl),((blk_cell HG4.out 3).trans rfl),((blk_cell HG4.out 6).trans rfl),((blk_cell HG4.out 7).trans rfl),(HBD4.out.look o.f3 HOO.out.1 HLV.out)⟩ (fun hHeld=>?_)
   clear hK K
   refine norm_ (a':=?_) ?_ ?_
   rotate_left
   ·show Act.put _ (some 39) _ = _
    simp only [Act.put,sA,sB,sC,i64_w,i32_w]
    rfl
   refine last_ (i:=20) (N:=none) (bm 2097151 21) rfl rfl (by kernel_rfl) (by decide) (fun K hK=>?_)
   refine step_store _ (by rfl) (.tmp 23) (.tmp 25) (.tmp 39) 142 24 rfl Try.underlying142 (w.heap.size + 1) i ga rfl HBD4.out.ma (by have:=HI.out;have:=HMX.out;simp only [maxLen];omega) o.f3 rfl HOO.out.1 _ rfl ?_
   intro w5_ hm5 hg5 hs5
   have HBE:=Aside0.mk (And.intro (Aside0.mk (HB4.out.grown hg5 HN4.out (fun k hk=>by cases hk;omega))) (Aside0.mk (HBD4.out.storeAt hm5 hg5 HR4.out)))
   clear hm5 hg5 hs5
   refine hK.out _ _ ?_
   clear hK K
   refine done_ (by kernel_rfl) ?_
   have wk:=HWK.out
   clear hHeld
   go_wp2
   go_roundg gl
   case measure=>omega
   case rel=>exact ⟨i + 1,_,_,_,by simp [wk],⟨by have:=HI.out;omega⟩,HP,HBE.out.1,HBE.out.2⟩
  have t1:(o.f2 == 1) = false:=by simpa using d1
  have hP:=HPO.out
  rw [playF,if_neg d1] at hP
  obtain ⟨t,hbl,hP⟩:=Option.bind_eq_some_iff.1 hP
  have HBL:=Aside0.mk hbl
  have hx3:w2.cell? ⟨g,3,none⟩ = some (.int .i64 o.f3):=(blk_cell HG1.out 3).trans rfl
  have hx4:w2.cell? ⟨g,4,none⟩ = some (.int .i64 o.f4):=(blk_cell HG1.out 4).trans rfl
  clear d1 hbl HPO
  cases t with
  | true =>
   rw [if_pos rfl] at hP
   have HP:=Aside0.mk hP
   have wk:=HWK.out
   clear hP
   go_wp2_with (go_at_call 116;(with_reducible refine (below_calls k w2 _ _ _ _ _ _ _ b HBD1.out o.f4 o.f3 HOO.out.2 true HBL.out).mono ?_);rintro e3 w3 ⟨rfl,rfl⟩)
   go_roundg gl
   case measure=>omega
   case rel=>exact ⟨i + 1,_,_,_,by simp [wk],⟨by have:=HI.out;omega⟩,HP,HB1,⟨HBD1.out.mono (Nat.le_succ i)⟩⟩
  | false =>
   rw [if_neg (by decide)] at hP
   have HP:=Aside0.mk hP
   have HBD2:=Aside0.mk HBD1.out.drew
   have HG2:=Aside0.mk (blk_drew HG1.out)
   have HB2:=Aside0.mk (below_drew HB1.out)
   have HN:Aside0 (w.heap.size ≤ w2.drew.heap.size):=⟨HB1.out.size⟩
   clear hP
   go_upto_region 8 with (go_at_call 116;(with_reducible refine (below_calls k w2 _ _ _ _ _ _ _ b HBD1.out o.f4 o.f3 HOO.out.2 false HBL.out).mono ?_);rintro e3 w3 ⟨rfl,rfl⟩)
   clear hx2 hx3 hx4 HBD1 HB1
   refine start_ (n:=15) (S:=fun w'=>w'.cell? ⟨w.heap.size + 1 + 1,0,none⟩ = some (.map (some (w.heap.size))) ∧ w'.cell? ⟨g,3,none⟩ = some (.int .i64 o.f3) ∧ w'.cell? ⟨g,4,none⟩ = some (.int .i64 o.f4) ∧ w'.cell? ⟨g,5,none⟩ = some (.string o.f5)) (ds:=[14]) #[false,false,false,false,false,false,false,false,false,false,false,false,false,false,false] (by kernel_rfl) rfl rfl ⟨((blk_cell HBD2.out.blk 0).trans rfl),((blk_cell HG2.out 3).trans rfl),((blk_cell HG2.out 4).trans rfl),((blk_cell HG2.out 5).trans rfl)⟩ (fun hHeld=>?_)
   refine pure_ (i:=0) (N:=some 48) (v:=?_) (a':=?_) (bm 1 15) rfl rfl (by kernel_rfl) (fun _ _ _ h=>h) (Or.inl ⟨by rfl,?_⟩) ?_ ?_
   rotate_left
   ·intro w'
    go_simp
    with_reducible rfl
   rotate_left
   ·simp only [Act.put,sA,sB,sC,i64_w,i32_w]
    rfl
   refine pure_ (i:=1) (N:=some 49) (v:=?_) (a':=?_) (bm 3 15) rfl rfl (by kernel_rfl) (fun _ _ _ h=>h) (Or.inl ⟨by rfl,?_⟩) ?_ ?_
   rotate_left
   ·intro w'
    go_simp
    with_reducible rfl
   rotate_left
   ·simp only [Act.put,sA,sB,sC,i64_w,i32_w]
    rfl
   refine pure_ (i:=2) (N:=some 50) (v:=?_) (a':=?_) (bm 7 15) rfl rfl (by kernel_rfl) (fun _ _ _ h=>h) (Or.inl ⟨by rfl,?_⟩) ?_ ?_
   rotate_left
   ·intro w'
    go_simp
    with_reducible rfl
   rotate_left
   ·simp only [Act.put,sA,sB,sC,i64_w,i32_w]
    rfl
   refine pure_ (i:=4) (N:=some 52) (v:=?_) (a':=?_) (bm 23 15) rfl rfl (by kernel_rfl) (fun _ _ _ h=>h) (Or.inl ⟨by rfl,?_⟩) ?_ ?_
   rotate_left
   ·intro w'
    go_simp
    with_reducible rfl
   rotate_left
   ·simp only [Act.put,sA,sB,sC,i64_w,i32_w]
    rfl
   refine pure_ (i:=6) (N:=some 54) (v:=?_) (a':=?_) (bm 87 15) rfl rfl (by kernel_rfl) (fun _ _ _ h=>h) (Or.inl ⟨by rfl,?_⟩) ?_ ?_
   rotate_left
   ·intro w'
    go_simp
    with_reducible rfl
   rotate_left
   ·simp only [Act.put,sA,sB,sC,i64_w,i32_w]
    rfl
   refine pure_ (i:=8) (N:=some 56) (v:=?_) (a':=?_) (bm 343 15) rfl rfl (by kernel_rfl) (fun _ _ _ h=>h) (Or.inl ⟨by rfl,?_⟩) ?_ ?_
   rotate_left
   ·intro w'
    go_simp
    with_reducible rfl
   rotate_left
   ·simp only [Act.put,sA,sB,sC,i64_w,i32_w]
    rfl
   refine pure_ (i:=10) (N:=some 58) (v:=?_) (a':=?_) (bm 1367 15) rfl rfl (by kernel_rfl) (fun _ _ _ h=>h) (Or.inl ⟨by rfl,?_⟩) ?_ ?_
   rotate_left
   ·intro w'
    go_simp
    with_reducible rfl
   rotate_left
   ·simp only [Act.put,sA,sB,sC,i64_w,i32_w]
    rfl
   refine take_ (i:=3) (N:=some 51) (v:=?_) (a':=?_) (bm 1375 15) rfl rfl (by kernel_rfl) (fun _ _ _ h=>h) (Or.inl ⟨by rfl,?_⟩) hHeld ?_ ?_
   rotate_left
   ·rintro w' ⟨s0,s1,s2,s3⟩
    go_simp
    with_reducible rfl
   rotate_left
   ·simp only [Act.put,sA,sB,sC,i64_w,i32_w]
    rfl
   refine take_ (i:=5) (N:=some 53) (v:=?_) (a':=?_) (bm 1407 15) rfl rfl (by kernel_rfl) (fun _ _ _ h=>h) (Or.inl ⟨by rfl,?_⟩) hHeld ?_ ?_
   rotate_left
   ·rintro w' ⟨s0,s1,s2,s3⟩
    go_simp
    with_reducible rfl
   rotate_left
   ·simp only [Act.put,sA,sB,sC,i64_w,i32_w]
    rfl
   refine take_ (i:=7) (N:=some 55) (v:=?_) (a':=?_) (bm 1535 15) rfl rfl (by kernel_rfl) (fun _ _ _ h=>h) (Or.inl ⟨by rfl,?_⟩) hHeld ?_ ?_
   rotate_left
   ·rintro w' ⟨s0,s1,s2,s3⟩
    go_simp
    with_reducible rfl
   rotate_left
   ·simp only [Act.put,sA,sB,sC,i64_w,i32_w]
    rfl
   refine take_ (i:=9) (N:=some 57) (v:=?_) (a':=?_) (bm 2047 15) rfl rfl (by kernel_rfl) (fun _ _ _ h=>h) (Or.inl ⟨by rfl,?_⟩) hHeld ?_ ?_
   rotate_left
   ·rintro w' ⟨s0,s1,s2,s3⟩
    go_simp
    with_reducible rfl
   rotate_left
   ·simp only [Act.put,sA,sB,sC,i64_w,i32_w]
    rfl
   refine take_ (i:=11) (N:=some 59) (v:=?_) (a':=?_) (bm 4095 15) rfl rfl (by kernel_rfl) (fun _ _ _ h=>h) (Or.inl ⟨by rfl,?_⟩) hHeld ?_ ?_
   rotate_left
   ·rintro w' ⟨s0,s1,s2,s3⟩
    go_simp
    with_reducible rfl
   rotate_left
   ·simp only [Act.put,sA,sB,sC,i64_w,i32_w]
    rfl
   refine pure_ (i:=12) (N:=some 60) (v:=?_) (a':=?_) (bm 8191 15) rfl rfl (by kernel_rfl) (fun _ _ _ h=>h) (Or.inl ⟨by rfl,?_⟩) ?_ ?_
   rotate_left
   ·intro w'
    go_simp
    with_reducible rfl
   rotate_left
   ·simp only [Act.put,sA,sB,sC,i64_w,i32_w]
    rfl
   refine one_ (i:=13) (N:=some 61) (bm 16383 15) rfl rfl (by kernel_rfl) (by decide) (fun K hK=>?_)
   refine box_step ?hg (N:=61) ?hd (cs:=#[.int .i64 o.f3,.int .i64 o.f4,.string o.f5,.slice none 0 0]) (t:=87) ?hr ?_;(case hd=>rfl);(case hg=>rfl);(case hr=>(go_simp;done))
   intro p3 hp3 w3_ hb3 hB3
   have HBD3:=Aside0.mk (HBD2.out.below hB3)
   have HG3:=Aside0.mk ((hB3.block g (blk_lt HG2.out)).trans HG2.out)
   have HB3:=Aside0.mk (below_then HB2.out HN.out hB3)
   have HN3:Aside0 (w.heap.size ≤ w3_.heap.size):=⟨Nat.le_trans HN.out hB3.size⟩
   have HX3:Aside0 (ItAt w3_ w.heap.size (.pointer (some ⟨p3,0,none⟩)) ⟨o.f3,o.f4,o.f5,[]⟩):=⟨HOO.out.2,p3,_,rfl,by rw [hp3];exact HN.out,hb3,Kd.R_nil _ _ _ _ _⟩
   clear hp3 hb3 hB3
   refine hK.out _ _ ⟨((blk_cell HBD3.out.blk 0).trans rfl),((blk_cell HG3.out 3).trans rfl),((blk_cell HG3.out 4).trans rfl),((blk_cell HG3.out 5).trans rfl)⟩ (fun hHeld=>?_)
   clear hK K
   refine norm_ (a':=?_) ?_ ?_
   rotate_left
   ·show Act.put _ (some 61) _ = _
    simp only [Act.put,sA,sB,sC,i64_w,i32_w]
    rfl
   refine last_ (i:=14) (N:=none) (bm 32767 15) rfl rfl (by kernel_rfl) (by decide) (fun K hK=>?_)
   refine step_store _ (by rfl) (.tmp 51) (.tmp 53) (.tmp 61) 141 139 rfl Try.underlying141 (w.heap.size) i gi rfl HBD3.out.mi (by have:=HI.out;have:=HMX.out;simp only [maxLen];omega) o.f3 rfl HOO.out.1 _ rfl ?_
   intro w5_ hm5 hg5 hs5
   have HBE:=Aside0.mk (And.intro (Aside0.mk (HB3.out.grown hg5 HN3.out (fun k hk=>by cases hk;omega))) (Aside0.mk (HBD3.out.storeIt (x:=⟨o.f3,o.f4,o.f5,[]⟩) hm5 hg5 HX3.out)))
   clear hm5 hg5 hs5
   refine hK.out _ _ ?_
   clear hK K
   refine done_ (by kernel_rfl) ?_
   have wk:=HWK.out
   clear hHeld
   go_wp2
   go_roundg gl
   case measure=>omega
   case rel=>exact ⟨i + 1,_,_,_,by simp [wk],⟨by have:=HI.out;omega⟩,HP,HBE.out.1,HBE.out.2⟩
end Go.Proofs.Ytlcodfjlbhjkbaa.PDelta
end

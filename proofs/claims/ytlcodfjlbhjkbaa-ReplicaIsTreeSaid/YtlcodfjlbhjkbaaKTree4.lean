/- Parts of the proof of Tree: nothing is claimed here by itself. -/
import Derived.Test.YtlcodfjlbhjkbaaKTree3
import Derived.StillTailTactics
import Derived.Test.YtlcodfjlbhjkbaaChecked
import Derived.Shelf.SlSortCmp.WholeK
import Derived.Sort.LotA
set_option linter.unusedVariables false
set_option linter.unusedSimpArgs false
section
namespace Go.Proofs.Ytlcodfjlbhjkbaa.PDelta
open Go.RowKit Go.Maps Go.Sort Go.Proofs.YtlcodfjlbhjkbaaW.PrintWords Go.Proofs.YtlcodfjlbhjkbaaW.PrintLast Go.Proofs.YtlcodfjlbhjkbaaW.PrintMore
def stLt (a b:S128):Prop:=a.f0 < b.f0 ∨ a.f0 = b.f0 ∧ a.f1 < b.f1
instance (a b:S128):Decidable (stLt a b):=by unfold stLt;infer_instance
theorem stLt.trans {a b c:S128} (h:stLt a b) (k:stLt b c):stLt a c:=by unfold stLt at *;omega
def stC (a b:S128):Int:=orI (cmpI a.f0 b.f0) (cmpI a.f1 b.f1)
theorem stC_lt (a b:S128):stC a b < 0 ↔ stLt a b:=by
 unfold stC orI cmpI stLt
 by_cases h1:a.f0 < b.f0
 ·simp [h1]
 ·by_cases h2:b.f0 < a.f0
  ·rw [if_neg h1,if_pos h2];simp;omega
  ·have h3:a.f0 = b.f0:=by omega
   rw [if_neg h1,if_neg h2,if_pos rfl]
   by_cases h4:a.f1 < b.f1
   ·simp [h4,h3]
   ·rw [if_neg h4];split <;> simp <;> omega
theorem stamps_ev (a b:S128):Ev (fun k=>replica_stamps.f k a.f0 a.f1 a.f2 a.f3 a.f4 a.f5 a.f6 a.f7 b.f0 b.f1 b.f2 b.f3 b.f4 b.f5 b.f6 b.f7) (stC a b):=by
 refine Ev.of (fun k=>replica_stamps.mono _ _ _ _ _ _ _ _ _ _ _ _ _ _ _ _ k) (k:=3) ?_
 simp only [replica_stamps.f,cmpi_f,Option.bind_some,or_f]
 rfl
def PlaceOK (s:ByteArray):Prop:=Ev (fun k=>replica_Place.f k s) true
structure OpV (o:S128):Prop where
 clock:1 ≤ o.f0 ∧ o.f0 ≤ 1073741824
 site:0 ≤ o.f1 ∧ o.f1 ≤ 1000
 item:1 ≤ o.f3 ∧ o.f3 ≤ 1073741824
 kind:(o.f2 = 0 ∧ o.f6 = ⟨#[]⟩ ∧ o.f7 = ⟨#[]⟩ ∧ -1 ≤ o.f4 ∧ o.f4 ≤ 1073741824 ∧ PlaceOK o.f5) ∨ (o.f2 = 1 ∧ o.f4 = 0 ∧ o.f5 = ⟨#[]⟩ ∧ NameOK o.f6 ∧ (o.f7 = ⟨#[]⟩ ∨ ValOK o.f7))
theorem emp_nil:(⟨#[]⟩:ByteArray).toList = []:=by rw [ByteArray.toList_eq]
theorem op_ev {o:S128} (h:OpV o):Ev (fun k=>replica_op.f k o.f0 o.f1 o.f2 o.f3 o.f4 o.f5 o.f6 o.f7) 0:=by
 obtain ⟨hc,hs,hi,hk⟩:=h
 obtain ⟨o0,o1,o2,o3,o4,o5,o6,o7⟩:=o
 simp only at hc hs hi hk ⊢
 have d3:decide (o3 > 1073741824) = false:=decide_eq_false (by omega)
 have j0:∀ k,replica_op.j0 (k + 1) false o0 o1 o2 o3 o4 o5 o6 o7 = replica_op.j1 k false o0 o1 o2 o3 o4 o5 o6 o7:=fun k=>by
  rw [replica_op.j0]
  rw [if_neg (by decide),if_neg (by omega),if_neg (by omega),if_neg (by omega),if_neg (by omega),if_neg (by omega),d3]
 rcases hk with ⟨rfl,rfl,rfl,h4,h5,hp⟩ | ⟨rfl,rfl,rfl,hn,hv⟩
 ·have d4:decide (o4 > 1073741824) = false:=decide_eq_false (by omega)
  refine Ev.congr (f:=fun k=>replica_op.j0 k false o0 o1 0 o3 o4 o5 ⟨#[]⟩ ⟨#[]⟩) (fun k=>if_pos rfl) ?_
  refine Ev.step (fun k=>j0 k) (Ev.step (f:=fun k=>replica_op.j2 k false o0 o1 0 o3 o4 o5 ⟨#[]⟩ ⟨#[]⟩) (fun k=>?_) (Ev.step (f:=fun k=>replica_op.j3 k false o0 o1 0 o3 o4 o5 ⟨#[]⟩ ⟨#[]⟩) (fun k=>?_) (Ev.step (f:=fun k=>replica_op.j4 k false o0 o1 0 o3 o4 o5 ⟨#[]⟩ ⟨#[]⟩) (fun k=>?_) (Ev.step (f:=fun k=>(replica_Place.f k o5).bind fun t=>replica_op.j5 k (!t) o0 o1 0 o3 o4 o5 ⟨#[]⟩ ⟨#[]⟩) (fun k=>?_) (Ev.bind hp (Ev.step (f:=fun k=>replica_op.j6 k false o0 o1 0 o3 o4 o5 ⟨#[]⟩ ⟨#[]⟩) (fun k=>?_) (Ev.step (f:=fun _=>some 0) (fun k=>?_) (Ev.now 0))))))))
  ·rw [replica_op.j1]
   rw [if_neg (by decide),if_pos rfl,if_pos emp_nil,emp_nil]
   rfl
  ·rw [replica_op.j2]
   rw [if_neg (by decide),if_neg (by decide)]
  ·rw [replica_op.j3]
   rw [if_neg (by decide),if_pos rfl,if_neg (by omega),d4]
  ·rw [replica_op.j4]
   rw [if_neg (by decide),if_pos rfl]
  ·rw [replica_op.j5]
   rw [if_neg (by decide),if_neg (by decide)]
  ·rw [replica_op.j6]
   rw [if_neg (by decide),if_neg (by decide)]
 ·obtain ⟨b,hb,hbn⟩:=name_ev o6 (by have:=hn.2.1;omega)
  obtain rfl:b = true:=hbn.2 hn
  refine Ev.congr (f:=fun k=>replica_op.j0 k false o0 o1 1 o3 0 ⟨#[]⟩ o6 o7) (fun k=>if_neg (by decide)) ?_
  refine Ev.step (fun k=>j0 k) (Ev.step (f:=fun k=>replica_op.j2 k false o0 o1 1 o3 0 ⟨#[]⟩ o6 o7) (fun k=>?_) (Ev.step (f:=fun k=>replica_op.j3 k false o0 o1 1 o3 0 ⟨#[]⟩ o6 o7) (fun k=>?_) (Ev.step (f:=fun k=>replica_op.j4 k false o0 o1 1 o3 0 ⟨#[]⟩ o6 o7) (fun k=>?_) (Ev.step (f:=fun k=>replica_op.j5 k false o0 o1 1 o3 0 ⟨#[]⟩ o6 o7) (fun k=>?_) (Ev.step (f:=fun k=>(attr_Name.f k o6).bind fun t=>replica_op.j6 k (!t) o0 o1 1 o3 0 ⟨#[]⟩ o6 o7) (fun k=>?_) (Ev.bind hb ?_))))))
  ·rw [replica_op.j1]
   rw [if_neg (by decide),if_neg (by decide)]
  ·rw [replica_op.j2]
   rw [if_neg (by decide),if_pos rfl,if_pos rfl,emp_nil]
   rfl
  ·rw [replica_op.j3]
   rw [if_neg (by decide),if_neg (by decide)]
  ·rw [replica_op.j4]
   rw [if_neg (by decide),if_neg (by decide)]
  ·rw [replica_op.j5]
   rw [if_neg (by decide),if_pos rfl]
  ·rcases hv with rfl | hv
   ·refine Ev.step (f:=fun _=>some 0) (fun k=>?_) (Ev.now 0)
    rw [replica_op.j6]
    rw [if_neg (by decide),if_pos rfl,if_pos emp_nil]
   ·obtain ⟨c,hcv,hcn⟩:=val_ev o7 (by have:=hv.2.1;omega)
    obtain rfl:c = true:=hcn.2 hv
    refine Ev.step (f:=fun k=>(attr_Value.f k o7).bind fun t=>if t = true then some 0 else some 23) (fun k=>?_) (Ev.bind hcv (Ev.congr (fun k=>by rw [if_pos rfl]) (Ev.now 0)))
    rw [replica_op.j6]
    rw [if_neg (by decide),if_pos rfl,if_neg (fun e=>by have:=list_nil.1 e;have:=hv.1;omega)]
theorem rd128 {l:List S128} {i:Nat} (h:i < l.length):rd_T128 l (i:Int) = l[i]:=by
 rw [rd_T128,List.getD_eq_getElem?_getD]
 simp [h]
theorem dcheck_l0 (l:List S128) (hs:l.Pairwise stLt) (hv:∀ o ∈ l,OpV o) (hl:l.length ≤ 1073741824) (d:Nat):∀ i:Nat,i + d = l.length → Ev (fun k=>replica_Check.l0 k l l (l.length:Int) (i:Int)) 0:=by
 induction d with
 | zero =>
  intro i hi
  refine Ev.step (f:=fun _=>some 0) (fun k=>?_) (Ev.now 0)
  rw [replica_Check.l0]
  rw [if_neg (by omega)]
 | succ d ih =>
  intro i hi
  have hlt:i < l.length:=by omega
  have hw:wrap64 ((i:Int) + 1) = ((i + 1:Nat):Int):=by unfold wrap64;omega
  have e:=rd128 hlt
  have ho:=op_ev (hv _ (List.getElem_mem hlt))
  rw [← e] at ho
  have nx:=ih (i + 1) (by omega)
  by_cases h0:i = 0
  ·refine Ev.step (f:=fun k=>(replica_op.f k (rd_T128 l i).f0 (rd_T128 l i).f1 (rd_T128 l i).f2 (rd_T128 l i).f3 (rd_T128 l i).f4 (rd_T128 l i).f5 (rd_T128 l i).f6 (rd_T128 l i).f7).bind fun t=>if t = 0 then replica_Check.l0 k l l (l.length:Int) ((i + 1:Nat):Int) else some t) (fun k=>?_) (Ev.bind ho (Ev.congr (fun k=>by rw [if_pos rfl]) nx))
   rw [replica_Check.l0]
   rw [if_pos (by omega),if_pos (by omega),if_pos (by omega),hw]
   congr 1
   funext t
   split
   ·rw [if_neg (by omega)]
   ·rfl
  ·have hw1:wrap64 ((i:Int) - 1) = ((i - 1:Nat):Int):=by unfold wrap64;omega
   have e1:=rd128 (l:=l) (i:=i - 1) (by omega)
   have hst:stLt (rd_T128 l ((i - 1:Nat):Int)) (rd_T128 l (i:Int)):=by
    rw [e1,e]
    exact List.pairwise_iff_getElem.1 hs (i - 1) i (by omega) hlt (by omega)
   have hneg:=(stC_lt _ _).2 hst
   have hsv:=stamps_ev (rd_T128 l ((i - 1:Nat):Int)) (rd_T128 l (i:Int))
   refine Ev.step (f:=fun k=>(replica_op.f k (rd_T128 l i).f0 (rd_T128 l i).f1 (rd_T128 l i).f2 (rd_T128 l i).f3 (rd_T128 l i).f4 (rd_T128 l i).f5 (rd_T128 l i).f6 (rd_T128 l i).f7).bind fun t=>if t = 0 then (replica_stamps.f k (rd_T128 l ((i - 1:Nat):Int)).f0 (rd_T128 l ((i - 1:Nat):Int)).f1 (rd_T128 l ((i - 1:Nat):Int)).f2 (rd_T128 l ((i - 1:Nat):Int)).f3 (rd_T128 l ((i - 1:Nat):Int)).f4 (rd_T128 l ((i - 1:Nat):Int)).f5 (rd_T128 l ((i - 1:Nat):Int)).f6 (rd_T128 l ((i - 1:Nat):Int)).f7 (rd_T128 l i).f0 (rd_T128 l i).f1 (rd_T128 l i).f2 (rd_T128 l i).f3 (rd_T128 l i).f4 (rd_T128 l i).f5 (rd_T128 l i).f6 (rd_T128 l i).f7).bind (fun s=>if s ≥ 0 then some 5 else replica_Check.l0 k l l (l.length:Int) ((i + 1:Nat):Int)) else some t) (fun k=>?_) (Ev.bind ho (Ev.congr (fun k=>by rw [if_pos rfl]) (Ev.bind hsv (Ev.congr (fun k=>by rw [if_neg (by omega)]) nx))))
   rw [replica_Check.l0]
   rw [if_pos (by omega),if_pos (by omega),if_pos (by omega),hw,hw1]
   congr 1
   funext t
   split
   ·rw [if_pos (by omega),if_pos (by omega),if_pos (by omega)]
   ·rfl
theorem dcheck_ev {l:List S128} (hs:l.Pairwise stLt) (hv:∀ o ∈ l,OpV o) (hl:l.length ≤ 1073741824):Ev (fun k=>replica_Check.f k l) 0:=dcheck_l0 l hs hv hl l.length 0 (by omega)
def mergeS:List S128 → List S128 → List S128
 | [],b=>b
 | x :: a,[]=>x :: a
 | x :: a,y :: b=>if stLt x y then x :: mergeS a (y :: b) else if stLt y x then y :: mergeS (x :: a) b else x :: mergeS a b
termination_by a b=>a.length + b.length
def OneSt (U:List S128):Prop:=∀ x ∈ U,∀ y ∈ U,¬ stLt x y → ¬ stLt y x → x = y
theorem mergeS_nil (a:List S128):mergeS a [] = a:=by cases a <;> simp [mergeS]
theorem mergeS_mem {U:List S128} (hU:OneSt U):∀ (a b:List S128),(∀ x ∈ a,x ∈ U) → (∀ x ∈ b,x ∈ U) → ∀ z,z ∈ mergeS a b ↔ z ∈ a ∨ z ∈ b:=by
 intro a b
 induction a,b using mergeS.induct with
 | case1 b=>intro _ _ z;simp [mergeS]
 | case2 x a=>intro _ _ z;simp [mergeS]
 | case3 x a y b h ih =>
  intro ha hb z
  rw [mergeS,if_pos h,List.mem_cons,ih (fun w hw=>ha w (List.mem_cons_of_mem _ hw)) hb]
  simp only [List.mem_cons,or_assoc]
 | case4 x a y b h h' ih =>
  intro ha hb z
  rw [mergeS,if_neg h,if_pos h',List.mem_cons,ih ha (fun w hw=>hb w (List.mem_cons_of_mem _ hw))]
  simp only [List.mem_cons]
  constructor
  ·rintro (h | (h | h) | h)
   ·exact .inr (.inl h)
   ·exact .inl (.inl h)
   ·exact .inl (.inr h)
   ·exact .inr (.inr h)
  ·rintro ((h | h) | (h | h))
   ·exact .inr (.inl (.inl h))
   ·exact .inr (.inl (.inr h))
   ·exact .inl h
   ·exact .inr (.inr h)
 | case5 x a y b h h' ih =>
  intro ha hb z
  have e:x = y:=hU x (ha x List.mem_cons_self) y (hb y List.mem_cons_self) h h'
  subst e
  rw [mergeS,if_neg h,if_neg h',List.mem_cons,ih (fun w hw=>ha w (List.mem_cons_of_mem _ hw)) (fun w hw=>hb w (List.mem_cons_of_mem _ hw))]
  simp only [List.mem_cons]
  constructor
  ·rintro (h | h | h)
   ·exact .inl (.inl h)
   ·exact .inl (.inr h)
   ·exact .inr (.inr h)
  ·rintro ((h | h) | (h | h))
   ·exact .inl h
   ·exact .inr (.inl h)
   ·exact .inl h
   ·exact .inr (.inr h)
theorem mergeS_sorted {U:List S128} (hU:OneSt U):∀ (a b:List S128),(∀ x ∈ a,x ∈ U) → (∀ x ∈ b,x ∈ U) → a.Pairwise stLt → b.Pairwise stLt → (mergeS a b).Pairwise stLt:=by
 intro a b
 induction a,b using mergeS.induct with
 | case1 b=>intro _ _ _ h;simpa [mergeS] using h
 | case2 x a=>intro _ _ h _;simpa [mergeS] using h
 | case3 x a y b h ih =>
  intro ha hb sa sb
  rw [List.pairwise_cons] at sa
  rw [mergeS,if_pos h,List.pairwise_cons]
  refine ⟨fun z hz=>?_,ih (fun w hw=>ha w (List.mem_cons_of_mem _ hw)) hb sa.2 sb⟩
  rcases (mergeS_mem hU a (y :: b) (fun w hw=>ha w (List.mem_cons_of_mem _ hw)) hb z).1 hz with hz | hz
  ·exact sa.1 z hz
  ·rcases List.mem_cons.1 hz with rfl | hz
   ·exact h
   ·exact h.trans ((List.pairwise_cons.1 sb).1 z hz)
 | case4 x a y b h h' ih =>
  intro ha hb sa sb
  rw [List.pairwise_cons] at sb
  rw [mergeS,if_neg h,if_pos h',List.pairwise_cons]
  refine ⟨fun z hz=>?_,ih ha (fun w hw=>hb w (List.mem_cons_of_mem _ hw)) sa sb.2⟩
  rcases (mergeS_mem hU (x :: a) b ha (fun w hw=>hb w (List.mem_cons_of_mem _ hw)) z).1 hz with hz | hz
  ·rcases List.mem_cons.1 hz with rfl | hz
   ·exact h'
   ·exact h'.trans ((List.pairwise_cons.1 sa).1 z hz)
  ·exact sb.1 z hz
 | case5 x a y b h h' ih =>
  intro ha hb sa sb
  have e:x = y:=hU x (ha x List.mem_cons_self) y (hb y List.mem_cons_self) h h'
  rw [List.pairwise_cons] at sa sb
  rw [mergeS,if_neg h,if_neg h',List.pairwise_cons]
  refine ⟨fun z hz=>?_,ih (fun w hw=>ha w (List.mem_cons_of_mem _ hw)) (fun w hw=>hb w (List.mem_cons_of_mem _ hw)) sa.2 sb.2⟩
  rcases (mergeS_mem hU a b (fun w hw=>ha w (List.mem_cons_of_mem _ hw)) (fun w hw=>hb w (List.mem_cons_of_mem _ hw)) z).1 hz with hz | hz
  ·exact sa.1 z hz
  ·rw [e];exact sb.1 z hz
theorem mergeS_len:∀ (a b:List S128),(mergeS a b).length ≤ a.length + b.length:=by
 intro a b
 induction a,b using mergeS.induct with
 | case1 b=>simp [mergeS]
 | case2 x a=>simp [mergeS]
 | case3 x a y b h ih=>rw [mergeS,if_pos h];simp only [List.length_cons] at *;omega
 | case4 x a y b h h' ih=>rw [mergeS,if_neg h,if_pos h'];simp only [List.length_cons] at *;omega
 | case5 x a y b h h' ih=>rw [mergeS,if_neg h,if_neg h'];simp only [List.length_cons] at *;omega
theorem rd0 (x:S128) (a:List S128):rd_T128 (x :: a) 0 = x:=rfl
theorem op_same (x:S128):(!((x.f0) == (x.f0)) || (!((x.f1) == (x.f1)) || (!((x.f2) == (x.f2)) || (!((x.f3) == (x.f3)) || (!((x.f4) == (x.f4)) || (!(((x.f5).toList) == ((x.f5).toList)) || (!(((x.f6).toList) == ((x.f6).toList)) || (!(((x.f7).toList) == ((x.f7).toList)))))))))) = false:=by simp
theorem both_l0 {U:List S128} (hU:OneSt U):∀ (a b:List S128),(∀ x ∈ a,x ∈ U) → (∀ x ∈ b,x ∈ U) → ∀ out:List S128,out.length + a.length + b.length ≤ 1073741824 → Ev (fun k=>replica_Both.l0 k a b out) (out ++ mergeS a b,0):=by
 intro a b
 induction a,b using mergeS.induct with
 | case1 b =>
  intro _ hb
  rw [mergeS]
  induction b with
  | nil =>
   intro out _
   rw [List.append_nil]
   refine Ev.step (f:=fun k=>replica_Both.j1 k [] [] out false) (fun k=>?_) (Ev.step (f:=fun _=>some (out,0)) (fun k=>?_) (Ev.now _))
   ·rw [replica_Both.l0];rw [if_neg (by simp only [List.length_cons,List.length_nil];omega)];rfl
   ·rw [replica_Both.j1];rw [if_neg (by decide)]
  | cons y b ih =>
   intro out ho
   simp only [List.length_cons,List.length_nil] at ho
   have nx:=ih (fun w hw=>hb w (List.mem_cons_of_mem _ hw)) (out ++ [y]) (by simp only [List.length_append,List.length_cons,List.length_nil];omega)
   rw [List.append_assoc] at nx
   refine Ev.step (f:=fun k=>replica_Both.j1 k [] (y :: b) out true) (fun k=>?_) (Ev.step (f:=fun k=>replica_Both.j2 k [] (y :: b) out false) (fun k=>?_) (Ev.step (f:=fun k=>replica_Both.j3 k [] (y :: b) out true) (fun k=>?_) (Ev.step (f:=fun k=>replica_Both.l0 k [] b (out ++ [y])) (fun k=>?_) nx)))
   ·rw [replica_Both.l0];rw [if_neg (by simp only [List.length_cons,List.length_nil];omega),decide_eq_true (by simp only [List.length_cons,List.length_nil];omega)]
   ·rw [replica_Both.j1];rw [if_pos rfl,if_neg (by simp only [List.length_cons,List.length_nil];omega),if_neg (by simp only [List.length_cons,List.length_nil];omega)]
   ·rw [replica_Both.j2];rw [if_neg (by decide),if_pos (by simp only [List.length_cons,List.length_nil];omega)]
   ·rw [replica_Both.j3];rw [if_pos rfl,if_pos (by simp only [List.length_cons,List.length_nil];omega),if_pos (by omega),if_pos (by simp only [List.length_cons,List.length_nil];omega)];rfl
 | case2 x a =>
  intro ha _
  have ha':=ha
  clear ha
  rw [mergeS_nil]
  generalize hq:x :: a = q at ha'
  clear hq x a
  induction q with
  | nil =>
   intro out _
   rw [List.append_nil]
   refine Ev.step (f:=fun k=>replica_Both.j1 k [] [] out false) (fun k=>?_) (Ev.step (f:=fun _=>some (out,0)) (fun k=>?_) (Ev.now _))
   ·rw [replica_Both.l0];rw [if_neg (by simp only [List.length_cons,List.length_nil];omega)];rfl
   ·rw [replica_Both.j1];rw [if_neg (by decide)]
  | cons x a ih =>
   intro out ho
   simp only [List.length_cons,List.length_nil] at ho
   have nx:=ih (fun w hw=>ha' w (List.mem_cons_of_mem _ hw)) (out ++ [x]) (by simp only [List.length_append,List.length_cons,List.length_nil];omega)
   rw [List.append_assoc] at nx
   refine Ev.step (f:=fun k=>replica_Both.j1 k (x :: a) [] out true) (fun k=>?_) (Ev.step (f:=fun k=>replica_Both.j2 k (x :: a) [] out true) (fun k=>?_) (Ev.step (f:=fun k=>replica_Both.l0 k a [] (out ++ [x])) (fun k=>?_) nx))
   ·rw [replica_Both.l0];rw [if_pos (by simp only [List.length_cons,List.length_nil];omega)]
   ·rw [replica_Both.j1];rw [if_pos rfl,if_pos (by simp only [List.length_cons,List.length_nil];omega)]
   ·rw [replica_Both.j2];rw [if_pos rfl,if_pos (by simp only [List.length_cons,List.length_nil];omega),if_pos (by omega),if_pos (by simp only [List.length_cons,List.length_nil];omega)];rfl
 | case3 x a y b h ih =>
  intro ha hb out ho
  simp only [List.length_cons] at ho
  have nx:=ih (fun w hw=>ha w (List.mem_cons_of_mem _ hw)) hb (out ++ [x]) (by simp only [List.length_append,List.length_cons,List.length_nil];omega)
  rw [List.append_assoc] at nx
  rw [mergeS,if_pos h]
  have hst:=stamps_ev x y
  refine Ev.step (f:=fun k=>replica_Both.j1 k (x :: a) (y :: b) out true) (fun k=>?_) (Ev.step (f:=fun k=>(replica_stamps.f k x.f0 x.f1 x.f2 x.f3 x.f4 x.f5 x.f6 x.f7 y.f0 y.f1 y.f2 y.f3 y.f4 y.f5 y.f6 y.f7).bind fun t=>replica_Both.j2 k (x :: a) (y :: b) out (decide (t < 0))) (fun k=>?_) (Ev.bind hst (Ev.congr (f:=fun k=>replica_Both.j2 k (x :: a) (y :: b) out true) (fun k=>by rw [decide_eq_true ((stC_lt x y).2 h)]) (Ev.step (f:=fun k=>replica_Both.l0 k a (y :: b) (out ++ [x])) (fun k=>?_) nx))))
  ·rw [replica_Both.l0];rw [if_pos (by simp only [List.length_cons,List.length_nil];omega)]
  ·rw [replica_Both.j1];rw [if_pos rfl,if_neg (by simp only [List.length_cons,List.length_nil];omega),if_pos (by simp only [List.length_cons,List.length_nil];omega),if_pos (by simp only [List.length_cons,List.length_nil];omega),if_pos (by simp only [List.length_cons,List.length_nil];omega)];rfl
  ·rw [replica_Both.j2];rw [if_pos rfl,if_pos (by simp only [List.length_cons,List.length_nil];omega),if_pos (by omega),if_pos (by simp only [List.length_cons,List.length_nil];omega)];rfl
 | case4 x a y b h h' ih =>
  intro ha hb out ho
  simp only [List.length_cons] at ho
  have nx:=ih ha (fun w hw=>hb w (List.mem_cons_of_mem _ hw)) (out ++ [y]) (by simp only [List.length_append,List.length_cons,List.length_nil];omega)
  rw [List.append_assoc] at nx
  rw [mergeS,if_neg h,if_pos h']
  have hst:=stamps_ev x y
  have hst':=stamps_ev y x
  refine Ev.step (f:=fun k=>replica_Both.j1 k (x :: a) (y :: b) out true) (fun k=>?_) (Ev.step (f:=fun k=>(replica_stamps.f k x.f0 x.f1 x.f2 x.f3 x.f4 x.f5 x.f6 x.f7 y.f0 y.f1 y.f2 y.f3 y.f4 y.f5 y.f6 y.f7).bind fun t=>replica_Both.j2 k (x :: a) (y :: b) out (decide (t < 0))) (fun k=>?_) (Ev.bind hst (Ev.congr (f:=fun k=>replica_Both.j2 k (x :: a) (y :: b) out false) (fun k=>by rw [decide_eq_false (fun e=>h ((stC_lt x y).1 e))]) (Ev.step (f:=fun k=>(replica_stamps.f k y.f0 y.f1 y.f2 y.f3 y.f4 y.f5 y.f6 y.f7 x.f0 x.f1 x.f2 x.f3 x.f4 x.f5 x.f6 x.f7).bind fun t=>replica_Both.j3 k (x :: a) (y :: b) out (decide (t < 0))) (fun k=>?_) (Ev.bind hst' (Ev.congr (f:=fun k=>replica_Both.j3 k (x :: a) (y :: b) out true) (fun k=>by rw [decide_eq_true ((stC_lt y x).2 h')]) (Ev.step (f:=fun k=>replica_Both.l0 k (x :: a) b (out ++ [y])) (fun k=>?_) nx)))))))
  ·rw [replica_Both.l0];rw [if_pos (by simp only [List.length_cons,List.length_nil];omega)]
  ·rw [replica_Both.j1];rw [if_pos rfl,if_neg (by simp only [List.length_cons,List.length_nil];omega),if_pos (by simp only [List.length_cons,List.length_nil];omega),if_pos (by simp only [List.length_cons,List.length_nil];omega),if_pos (by simp only [List.length_cons,List.length_nil];omega)];rfl
  ·rw [replica_Both.j2];rw [if_neg (by decide),if_neg (by simp only [List.length_cons,List.length_nil];omega),if_pos (by simp only [List.length_cons,List.length_nil];omega),if_pos (by simp only [List.length_cons,List.length_nil];omega)];rfl
  ·rw [replica_Both.j3];rw [if_pos rfl,if_pos (by simp only [List.length_cons,List.length_nil];omega),if_pos (by omega),if_pos (by simp only [List.length_cons,List.length_nil];omega)];rfl
 | case5 x a y b h h' ih =>
  intro ha hb out ho
  simp only [List.length_cons] at ho
  have e:x = y:=hU x (ha x List.mem_cons_self) y (hb y List.mem_cons_self) h h'
  have nx:=ih (fun w hw=>ha w (List.mem_cons_of_mem _ hw)) (fun w hw=>hb w (List.mem_cons_of_mem _ hw)) (out ++ [x]) (by simp only [List.length_append,List.length_cons,List.length_nil];omega)
  rw [List.append_assoc] at nx
  rw [mergeS,if_neg h,if_neg h']
  have hst:=stamps_ev x y
  have hst':=stamps_ev y x
  subst e
  refine Ev.step (f:=fun k=>replica_Both.j1 k (x :: a) (x :: b) out true) (fun k=>?_) (Ev.step (f:=fun k=>(replica_stamps.f k x.f0 x.f1 x.f2 x.f3 x.f4 x.f5 x.f6 x.f7 x.f0 x.f1 x.f2 x.f3 x.f4 x.f5 x.f6 x.f7).bind fun t=>replica_Both.j2 k (x :: a) (x :: b) out (decide (t < 0))) (fun k=>?_) (Ev.bind hst (Ev.congr (f:=fun k=>replica_Both.j2 k (x :: a) (x :: b) out false) (fun k=>by rw [decide_eq_false (fun e=>h ((stC_lt x x).1 e))]) (Ev.step (f:=fun k=>(replica_stamps.f k x.f0 x.f1 x.f2 x.f3 x.f4 x.f5 x.f6 x.f7 x.f0 x.f1 x.f2 x.f3 x.f4 x.f5 x.f6 x.f7).bind fun t=>replica_Both.j3 k (x :: a) (x :: b) out (decide (t < 0))) (fun k=>?_) (Ev.bind hst' (Ev.congr (f:=fun k=>replica_Both.j3 k (x :: a) (x :: b) out false) (fun k=>by rw [decide_eq_false (fun e=>h ((stC_lt x x).1 e))]) (Ev.step (f:=fun k=>replica_Both.l0 k a b (out ++ [x])) (fun k=>?_) nx)))))))
  ·rw [replica_Both.l0];rw [if_pos (by simp only [List.length_cons,List.length_nil];omega)]
  ·rw [replica_Both.j1];rw [if_pos rfl,if_neg (by simp only [List.length_cons,List.length_nil];omega),if_pos (by simp only [List.length_cons,List.length_nil];omega),if_pos (by simp only [List.length_cons,List.length_nil];omega),if_pos (by simp only [List.length_cons,List.length_nil];omega)];rfl
  ·rw [replica_Both.j2];rw [if_neg (by decide),if_neg (by simp only [List.length_cons,List.length_nil];omega),if_pos (by simp only [List.length_cons,List.length_nil];omega),if_pos (by simp only [List.length_cons,List.length_nil];omega)];rfl
  ·rw [replica_Both.j3,rd0,rd0];rw [if_neg (by decide),if_pos (by simp only [List.length_cons,List.length_nil];omega),if_pos (by simp only [List.length_cons,List.length_nil];omega),op_same,if_neg (by decide),if_pos (by omega),if_pos (by simp only [List.length_cons,List.length_nil];omega),if_pos (by simp only [List.length_cons,List.length_nil];omega)];rfl
end Go.Proofs.Ytlcodfjlbhjkbaa.PDelta
end
section
namespace Go.Proofs.Ytlcodfjlbhjkbaa.PDelta
open Go.RowKit Go.Proofs.YtlcodfjlbhjkbaaW.PrintWords Go.Proofs.YtlcodfjlbhjkbaaW.PrintLast Go.Proofs.YtlcodfjlbhjkbaaW.PrintMore
structure DiceSt (w0:World) (g:Nat) (raw:List Int) (u:Nat) (w:World):Prop where
 ex:∃ (A:Option Addr) (c:Nat),w.heap[g]? = some (.cells #[.slice A raw.length c,.int .i64 (u:Int)] 79 (0,0)) ∧ Kd.C (Kd.int .i64) w0 A raw.length raw ∧ raw.length ≤ c
theorem wrap_mid {i:Int} (h0:0 ≤ i) (h:i ≤ 4611686018427387904):wrap64 i = i:=by unfold wrap64;omega
theorem wrap_k {i:Int} (h0:0 ≤ i) (h:i ≤ 4611686018427387904):IntKind.i64.wrap i = i:=by rw [i64_w];exact wrap_mid h0 h
theorem add_block (a:Addr) (n:Nat):(a.add n).block = a.block:=by unfold Go.Addr.add;split <;> rfl
def rollF (raw:List Int) (u:Nat) (n:Int):Option Int :=
 if raw.length = 0 then some 0 else chanceryref1_Within.f (wrap64 (rd raw ((u % raw.length:Nat):Int) + (((u + 1) / raw.length:Nat):Int))) 0 (wrap64 (n - 1))
def rollU (raw:List Int) (u:Nat):Nat:=if raw.length = 0 then u else u + 1
set_option maxRecDepth 100000 in
set_option maxHeartbeats 4000000 in
theorem roll_calls (w0:World) (g:Nat) (raw:List Int) (u:Nat) (n r:Int) (w:World) (h0:w0.heap.size ≤ g) (h:DiceSt w0 g raw u w) (hB:Below w0.heap.size w0 w) (hu:u < 4611686018427387904) (hf:rollF raw u n = some r) :
 Calls Try.prog 40 #[.pointer (some ⟨g,0,none⟩),.int .i64 n] w fun e w'=>e = .returned (.int .i64 r) ∧ DiceSt w0 g raw (rollU raw u) w' ∧ (w.heap.size ≤ w'.heap.size ∧ ∀ k,k < w.heap.size → k ≠ g → w'.heap[k]? = w.heap[k]?) ∧ Below w0.heap.size w0 w':=by
 have hu79:=Try.underlying79
 obtain ⟨A,c,hb,hC,hc⟩:=h.ex
 have hc0:w.cell? ⟨g,0,none⟩ = some (.slice A raw.length c):=(blk_cell hb 0).trans rfl
 have hc1:w.cell? ⟨g,1,none⟩ = some (.int .i64 (u:Int)):=(blk_cell hb 1).trans rfl
 have hf1:=blk_frozen hb 1
 have HB:=Aside0.mk hB
 have HC:=Aside0.mk hC
 have HBL:=Aside0.mk hb
 have HCC:=Aside0.mk hc
 have H0:=Aside0.mk h0
 have HS:=Aside0.mk h
 clear h hb hC hB hc h0
 by_cases c1:raw.length = 0
 ·have e':rollU raw u = u:=if_pos c1
  rw [rollF,if_pos c1] at hf
  injection hf with hf
  subst hf
  have c1b:((raw.length:Int) == 0) = true:=beq_iff_eq.mpr (by omega)
  have c1c:(raw.length == 0) = true:=beq_iff_eq.mpr c1
  rw [e']
  clear e' c1
  go_enter Try.func40,Try.ntmps40
  go_wp2
  go_ret
  exact ⟨rfl,HS.out,⟨Nat.le_refl _,fun _ _ _=>rfl⟩,HB.out⟩
 ·have e':rollU raw u = u + 1:=if_neg c1
  rw [rollF,if_neg c1] at hf
  have c1b:((raw.length:Int) == 0) = false:=beq_eq_false_iff_ne.mpr (by omega)
  have c1c:(raw.length == 0) = false:=beq_eq_false_iff_ne.mpr c1
  rw [e']
  have hlen:0 < raw.length:=by omega
  have hm':u % raw.length < raw.length:=Nat.mod_lt _ hlen
  have hmu:u % raw.length ≤ u:=Nat.mod_le _ _
  have hqu:(u + 1) / raw.length ≤ u + 1:=Nat.div_le_self _ _
  have t1:Int.tmod (u:Int) (raw.length:Int) = ((u % raw.length:Nat):Int):=rfl
  have t2:Int.tdiv ((u:Int) + 1) (raw.length:Int) = (((u + 1) / raw.length:Nat):Int):=rfl
  obtain ⟨m,hm⟩:∃ m,m = u % raw.length:=⟨_,rfl⟩
  obtain ⟨q,hq⟩:∃ q,q = (u + 1) / raw.length:=⟨_,rfl⟩
  rw [← hm] at t1 hf hm' hmu
  rw [← hq] at t2 hf hqu
  clear hm hq
  obtain ⟨ad0,e0,hx0⟩:=Kd.at_int HC.out (m:Int) (by omega) (by omega)
  cases e0
  have HGN:Aside0 (g ≠ ad0.block):=⟨fun e=>by have:=World.block_lt_of_cell? w0 _ hx0;have:=H0.out;rw [add_block] at *;omega⟩
  replace hx0:=(HB.out.cell (World.block_lt_of_cell? w0 _ hx0)).trans hx0
  replace hx0:=(World.cell?_setCell_far w ⟨g,1,none⟩ (ad0.add ((m:Int)).toNat) (.int .i64 ((u:Int) + 1)) (by rw [add_block];exact HGN.out)).trans hx0
  simp only [Int.toNat_natCast] at hx0
  have w1:wrap64 ((u:Int) + 1) = (u:Int) + 1:=wrap_mid (by omega) (by omega)
  have w2:wrap64 (((u:Int) + 1) - 1) = (u:Int):=by rw [Int.add_sub_cancel];exact wrap_mid (by omega) (by omega)
  have w3:IntKind.i64.wrap (u:Int) = (u:Int):=wrap_k (by omega) (by omega)
  have w5:IntKind.i64.wrap (m:Int) = (m:Int):=wrap_k (by omega) (by omega)
  have w6:IntKind.i64.wrap (q:Int) = (q:Int):=wrap_k (by omega) (by omega)
  have HF:=Aside0.mk hf
  have q0:(m:Int) < (raw.length:Int):=by omega
  have q1:m < raw.length:=by omega
  have c1d:¬ ((raw.length:Int) = 0):=by omega
  clear e' hf hu hmu hqu
  go_enter Try.func40,Try.ntmps40
  go_wp2
  refine wp_region_still_tail 30 (by kernel_rfl) (by kernel_rfl) ?_
  simp only [List.take_succ_cons,List.take_zero,List.drop_succ_cons,List.drop_zero]
  change wpStill _ _ (World.drew _) (fun a'=>wpList _ _ _ _ a' (World.drew _)) _ _
  repeat still_step
  refine wpStill_nil ?_
  go_wp2_with (go_at_call 20;(with_reducible refine (chanceryref1_Within.calls _ _ _ r _ HF.out).mono ?_);rintro e1 w5 ⟨rfl,hd⟩;have HDR:=Aside0.mk hd;clear hd)
  go_ret
  have hs:w.heap.size = (w.setCell ⟨g,1,none⟩ (.int .i64 ((u:Int) + 1))).heap.size:=by simp [World.setCell]
  have hbb:=Below.refl (w.setCell ⟨g,1,none⟩ (.int .i64 ((u:Int) + 1))).heap.size (w.setCell ⟨g,1,none⟩ (.int .i64 ((u:Int) + 1)))
  have hbd:=below_step (below_drew1 hbb) HDR.out.below
  refine ⟨rfl,⟨_,_,(hbd.block g (by rw [← hs];exact blk_lt HBL.out)).trans (blk_put HBL.out 1 _ rfl),HC.out,HCC.out⟩,⟨by rw [hs];exact hbd.size,fun k hk hg=>?_⟩,below_step (below_set HB.out H0.out) hbd⟩
  rw [hbd.block k (by rw [← hs];exact hk),Below.heap_setCell _ _ _ _ hg]
section
variable {ok:Nat → Prop} {w0 wI w w1:World} {g:Nat} {vI uI v u v1 u1:Value} {out out':List S95} {add add':List S26} {cut:Int}
end
section
variable {ok:Nat → Prop} {w0 wI w w1:World} {g:Nat} {vI uI v u v1 u1:Value} {out out':List S95} {add add':List S26} {cut:Int}
end
end Go.Proofs.Ytlcodfjlbhjkbaa.PDelta
end
section
namespace Go.Proofs.Ytlcodfjlbhjkbaa.PDelta
open Go.RowKit Go.Proofs.YtlcodfjlbhjkbaaW.PrintWords Go.Proofs.YtlcodfjlbhjkbaaW.PrintLast Go.Proofs.YtlcodfjlbhjkbaaW.PrintMore
open Go.RowKit Go.Proofs.YtlcodfjlbhjkbaaW.PrintWords Go.Proofs.YtlcodfjlbhjkbaaW.PrintLast Go.Proofs.YtlcodfjlbhjkbaaW.PrintMore
open Go.RowKit Go.Proofs.YtlcodfjlbhjkbaaW.PrintWords Go.Proofs.YtlcodfjlbhjkbaaW.PrintLast Go.Proofs.YtlcodfjlbhjkbaaW.PrintMore
end Go.Proofs.Ytlcodfjlbhjkbaa.PDelta
end
section
namespace Go.Proofs.Ytlcodfjlbhjkbaa.PDelta
open Go.RowKit Go.Proofs.YtlcodfjlbhjkbaaW.PrintWords Go.Proofs.YtlcodfjlbhjkbaaW.PrintLast Go.Proofs.YtlcodfjlbhjkbaaW.PrintMore
section
variable {w wr w1:World} {ga:Nat} {cs:Array Value} {out out':List S95} {adds adds':List S26} {v u v1 u1:Value}
end
section
variable {w wr w1:World} {ga gd n:Nat} {raw:List Int} {As As':List (List S26)} {Cs Cs':List Bool} {Ts Ts':List (List S91)} {cA cB cC vA vB vC u u1 v1 lv:Value} {al al':List S26} {l:List S91}
theorem DiceSt.block (h:DiceSt w gd raw n wr) (hb:w1.heap[gd]? = wr.heap[gd]?):DiceSt w gd raw n w1:=by
 obtain ⟨A,c,hk,hC,hc⟩:=h.ex
 exact ⟨A,c,hb.trans hk,hC,hc⟩
theorem DiceSt.typed (h:DiceSt w gd raw n wr):∃ cs,wr.heap[gd]? = some (.cells cs 79 (0,0)):=by
 obtain ⟨A,c,hk,hC,hc⟩:=h.ex
 exact ⟨_,hk⟩
theorem r_keep {α:Type} {d:Kd α} {e t:Nat} {base:Nat} {ok:Nat → Prop} {v:Value} {xs:List α} {cs:Array Value} {g:Nat} (h:d.R e wr base ok v xs) (hg:wr.heap[g]? = some (.cells cs t (0,0))) (ht:∀ q,q ∈ e :: d.E → q ≠ t) (hfr:∀ k,k < wr.heap.size → k ≠ g → w1.heap[k]? = wr.heap[k]?):d.R e w1 base ok v xs :=
 Kd.R_mono (Kd.R_step (Kd.R_types h hg ht) (fun k hk hlt=>hfr k hlt hk.2)) (fun _ hk=>hk.1)
end
end Go.Proofs.Ytlcodfjlbhjkbaa.PDelta
end
section
namespace Go.Proofs.Ytlcodfjlbhjkbaa.PDelta
open Go.RowKit Go.Proofs.YtlcodfjlbhjkbaaW.PrintWords Go.Proofs.YtlcodfjlbhjkbaaW.PrintLast Go.Proofs.YtlcodfjlbhjkbaaW.PrintMore
end Go.Proofs.Ytlcodfjlbhjkbaa.PDelta
end
section
namespace Go.Proofs.Ytlcodfjlbhjkbaa.PDelta
open Go.RowKit Go.Proofs.YtlcodfjlbhjkbaaW.PrintWords Go.Proofs.YtlcodfjlbhjkbaaW.PrintLast Go.Proofs.YtlcodfjlbhjkbaaW.PrintMore
section
variable {w wr w1:World} {g:Nat} {As As':List (List S26)} {Cs Cs':List Bool} {Ts Ts':List (List S91)} {cA cB cC vA vB vC v1:Value}
end
section
variable {w wr w1:World} {g gs:Nat} {As As':List (List S26)} {Cs Cs':List Bool} {Ts Ts':List (List S91)} {cA cB cC vA vB vC v1:Value} {x:S95} {A2 A3:Option Addr} {c2 c3:Nat}
end
section
variable {w wr w1:World} {g gs ba ca:Nat} {As:List (List S26)} {Cs:List Bool} {Ts:List (List S91)} {cA cB cC vA vB vC:Value} {x:S95} {A2 A3:Option Addr} {c2 c3:Nat}
end
section
variable {α:Type} {d:Kd α} {e base n ca ba:Nat} {wr w1:World} {ok okp:Nat → Prop} {xs:List α} {v:Value}
end
section
variable {w wr w1:World} {g:Nat} {As As':List (List S26)} {Cs Cs':List Bool} {Ts Ts':List (List S91)} {vA vB vC:Value}
end
theorem grown_below {w w1:World} (hg:w.grownBy w1 none):Below w.heap.size w w1:=(pw_below_grown (Below.refl _ _) none (Nat.le_refl _) hg (fun _ hk=>by cases hk))
section
variable {w wr w1:World} {g gs:Nat} {As:List (List S26)} {Cs:List Bool} {Ts:List (List S91)} {vA vB vC:Value} {x:S95} {A2 A3:Option Addr} {c2 c3:Nat}
end
def xyS (d:Int):ByteArray:=rdOf ByteArray.empty [⟨#[120]⟩,⟨#[121]⟩] d
def noS (d:Int):ByteArray:=rdOf ByteArray.empty [⟨#[]⟩,⟨#[49]⟩,⟨#[50]⟩] d
def plS (d:Int):ByteArray:=rdOf ByteArray.empty [⟨#[98]⟩,⟨#[99]⟩,⟨#[100]⟩] d
def paintF (raw:List Int) (site:Int) (i u:Nat):Option (S128 × Nat) :=
 (rollF raw u 2).bind fun a=>(rollF raw (rollU raw u) 6).bind fun b=>(rollF raw (rollU raw (rollU raw u)) 3).bind fun c =>
  if c = 0 then (rollF raw (rollU raw (rollU raw (rollU raw u))) 2).bind fun d=>(rollF raw (rollU raw (rollU raw (rollU raw (rollU raw u)))) 3).bind fun e =>
   some (⟨1 + (i:Int) * 2 + a,site,1,1 + b,0,⟨#[]⟩,xyS d,noS e⟩,rollU raw (rollU raw (rollU raw (rollU raw (rollU raw u)))))
  else (rollF raw (rollU raw (rollU raw (rollU raw u))) 8).bind fun d=>(rollF raw (rollU raw (rollU raw (rollU raw (rollU raw u)))) 3).bind fun e =>
   some (⟨1 + (i:Int) * 2 + a,site,0,1 + b,d - 1,plS e,⟨#[]⟩,⟨#[]⟩⟩,rollU raw (rollU raw (rollU raw (rollU raw (rollU raw u)))))
def paintsL (raw:List Int) (site:Int):Nat → Nat → Nat → List S128 → Option (List S128)
 | 0,_,_,out=>some out
 | n + 1,i,u,out=>(paintF raw site i u).bind fun p=>paintsL raw site n (i + 1) p.2 (out ++ [p.1])
def paintsF (raw:List Int) (site:Int):Option (List S128):=paintsL raw site (min raw.length 12) 0 0 []
theorem roll_range {raw:List Int} {u:Nat} {n x:Int} (hn:1 ≤ n) (hn2:n ≤ 1000) (h:rollF raw u n = some x):0 ≤ x ∧ x < n:=by
 unfold rollF at h
 split at h
 ·injection h with h;omega
 ·rw [show wrap64 (n - 1) = n - 1 by unfold wrap64;omega] at h
  obtain ⟨q,hq⟩:∃ q,q = wrap64 (rd raw ((u % raw.length:Nat):Int) + (((u + 1) / raw.length:Nat):Int)):=⟨_,rfl⟩
  rw [← hq] at h
  clear hq
  unfold chanceryref1_Within.f at h
  rw [show wrap64 ((n - 1) - 0) = n - 1 by unfold wrap64;omega,show wrap64 ((n - 1) + 1) = n by unfold wrap64;omega] at h
  have h3:-n < Int.tmod q n ∧ Int.tmod q n < n:=⟨Int.lt_tmod_of_pos q (by omega),Int.tmod_lt_of_pos q (by omega)⟩
  have h4:wrap64 (Int.tmod q n + n) = Int.tmod q n + n:=by unfold wrap64;omega
  rw [h4] at h
  have h5:0 ≤ Int.tmod (Int.tmod q n + n) n:=Int.tmod_nonneg _ (by omega)
  have h6:Int.tmod (Int.tmod q n + n) n < n:=Int.tmod_lt_of_pos _ (by omega)
  have h7:wrap64 (0 + Int.tmod (Int.tmod q n + n) n) = Int.tmod (Int.tmod q n + n) n:=by unfold wrap64;omega
  (rw [h7] at h;split at h <;> first | (injection h with h;omega) | cases h)
structure PaS (w0:World) (gd:Nat) (raw:List Int) (u:Nat) (v:Value) (out:List S128) (w:World):Prop where
 dice:DiceSt w0 gd raw u w
 lg:w0.heap.size ≤ gd
 row:Kd.R k128 128 w w0.heap.size (fun _=>True) v out
 bel:Below w0.heap.size w0 w
section
variable {w0 w w1:World} {gd u:Nat} {raw:List Int} {v:Value} {out:List S128}
theorem PaS.below (h:PaS w0 gd raw u v out w) (hb:Below w.heap.size w w1):PaS w0 gd raw u v out w1:=by
 obtain ⟨cs,hd⟩:=h.dice.typed
 exact ⟨h.dice.block (hb.block _ (blk_lt hd)),h.lg,Kd.R_below h.row hb,below_step h.bel hb⟩
theorem PaS.drew (h:PaS w0 gd raw u v out w):PaS w0 gd raw u v out w.drew:=h.below (below_drew1 (Below.refl _ _))
theorem PaS.size (h:PaS w0 gd raw u v out w):w0.heap.size ≤ w.heap.size:=h.bel.size
theorem PaS.ne (h:PaS w0 gd raw u v out w) {g t:Nat} {cs:Array Value} (hg:w.heap[g]? = some (.cells cs t (0,0))) (ht:t ≠ 79):g ≠ gd:=fun e=>by
 obtain ⟨cs',hd⟩:=h.dice.typed
 rw [e,hd] at hg
 injection hg with hg
 injection hg with _ hg
 exact ht hg.symm
theorem PaS.roll_calls (h:PaS w0 gd raw u v out w) (hu:u < 4611686018427387904) {n x:Int} (hf:rollF raw u n = some x) :
 Calls Try.prog 40 #[.pointer (some ⟨gd,0,none⟩),.int .i64 n] w fun e w'=>e = .returned (.int .i64 x) ∧ PaS w0 gd raw (rollU raw u) v out w' ∧ (∀ (k:Nat) cells t,t ≠ 79 → w.heap[k]? = some (Obj.cells cells t (0,0)) → w'.heap[k]? = w.heap[k]?) ∧ w.heap.size ≤ w'.heap.size:=by
 refine (PDelta.roll_calls w0 gd raw u n x w h.lg h.dice h.bel hu hf).mono ?_
 rintro e w' ⟨rfl,hd,⟨hs,hfr⟩,hb⟩
 obtain ⟨cs,hgd⟩:=h.dice.typed
 exact ⟨rfl,⟨hd,h.lg,r_keep h.row hgd (by decide) hfr,hb⟩,fun k cells t ht hk=>hfr k (blk_lt hk) (h.ne hk ht),hs⟩
theorem PaS.set (h:PaS w0 gd raw u v out w) {g:Nat} {cs:Array Value} (hg:w.heap[g]? = some (.cells cs 128 (0,0))) (hl:w0.heap.size ≤ g) (hne:v.ownBlock ≠ some g) (o:Nat) (x:Value):PaS w0 gd raw u v out (w.setCell ⟨g,o,none⟩ x):=by
 have hgd:=h.ne hg (by decide)
 refine ⟨h.dice.block (Below.heap_setCell w ⟨g,o,none⟩ x _ (Ne.symm hgd)),h.lg,?_,h.bel.setCell hl _⟩
 exact Kd.R_mono (Kd.R_far (Kd.R_tight rfl h.row) (fun k hk e=>hne (by rw [← hk,e])) x) (fun _ _=>trivial)
theorem PaS.append (h:PaS w0 gd raw u v out w) {vn:Value} {x:S128} (hR:Kd.R k128 128 w1 w0.heap.size (fun _=>True) vn (out ++ [x])) (hB:Below w0.heap.size w0 w1) (hg:w.grownBy w1 v.ownBlock):PaS w0 gd raw u vn (out ++ [x]) w1:=by
 obtain ⟨cs,hd⟩:=h.dice.typed
 refine ⟨h.dice.block (hg.block _ (blk_lt hd) (fun e=>?_)),h.lg,hR,hB⟩
 obtain ⟨inner,ho⟩:=Kd.R_own h.row
 obtain ⟨c2,h2⟩:=own_typed ho gd e.symm
 rw [hd] at h2
 injection h2 with h2
 injection h2 with _ h2
 exact absurd h2 (by decide)
end
section
variable {w w1:World} {base:Nat} {v:Value} {xs:List ByteArray}
theorem strR_move (h:Kd.R Kd.string 9 w base (fun _=>True) v xs) (hm:∀ (k:Nat) cells,w.heap[k]? = some (Obj.cells cells 9 (0,0)) → w1.heap[k]? = w.heap[k]?):Kd.R Kd.string 9 w1 base (fun _=>True) v xs :=
 Kd.R_mono (Kd.R_move (Kd.R_bound h) (fun k hk=>by
  obtain ⟨_,_,_,q,hq,cells,hc⟩:=hk
  have:q = 9:=by simpa [Kd.string,Kd.scalar] using hq
  subst this
  exact hm k cells hc)) (fun _ _=>trivial)
theorem strR_ad (h:Kd.R Kd.string 9 w base (fun _=>True) v xs) (hp:0 < xs.length):∃ ad c,v = .slice (some ad) xs.length c:=by
 obtain ⟨A,c,rfl⟩:=Kd.R_slice h
 obtain ⟨ad,e,_⟩:=Kd.at_string (Kd.R_reads' h).2.2 0 (Int.le_refl _) (by omega)
 subst e
 exact ⟨ad,c,rfl⟩
theorem strR_set (h:Kd.R Kd.string 9 w base (fun _=>True) v xs) {g t:Nat} {cs:Array Value} (hg:w.heap[g]? = some (.cells cs t (0,0))) (ht:t ≠ 9) (o:Nat) (x:Value):Kd.R Kd.string 9 (w.setCell ⟨g,o,none⟩ x) base (fun _=>True) v xs :=
 strR_move h (fun k cells hk=>Below.heap_setCell w ⟨g,o,none⟩ x k (fun e=>by
  rw [show k = g from e,hg] at hk
  injection hk with hk
  injection hk with _ hk
  exact ht hk))
end
end Go.Proofs.Ytlcodfjlbhjkbaa.PDelta
end
section
namespace Go.Proofs.Ytlcodfjlbhjkbaa.PDelta
open Go.RowKit Go.Proofs.YtlcodfjlbhjkbaaW.PrintWords Go.Proofs.YtlcodfjlbhjkbaaW.PrintLast Go.Proofs.YtlcodfjlbhjkbaaW.PrintMore
attribute [local go_sem] max2_int min2_int max_two min_two max_three min_three max_four min_four
theorem blk_put {w:World} {g:Nat} {cs:Array Value} {t:TypeId} (h:w.heap[g]? = some (.cells cs t (0,0))) (o:Nat) (u:Value) (cs':Array Value) (he:cs.setIfInBounds o u = cs'):(w.setCell ⟨g,o,none⟩ u).heap[g]? = some (.cells cs' t (0,0)):=by
 subst he
 have:=blk_set h o u
 simpa using this
def PaintE (w:World) (r:List S128) (e:Ending) (w':World):Prop:=∃ v0,e = .returned v0 ∧ Kd.R k128 128 w' w.heap.size (fun _=>True) v0 r ∧ Below w.heap.size w w'
set_option maxRecDepth 100000 in
set_option maxHeartbeats 8000000 in
theorem paints_calls (A0:Option Addr) (c0:Nat) (raw:List Int) (site:Int) (r:List S128) (w:World) (hr0:Kd.C (Kd.int .i64) w A0 raw.length raw) (hc0:raw.length ≤ c0) (h:paintsF raw site = some r) :
 Calls Try.prog 35 #[.slice A0 raw.length c0,.int .i64 site] w (PaintE w r):=by
 obtain ⟨m,hm⟩:∃ m,m = min raw.length 12:=⟨_,rfl⟩
 have HM:Aside0 (m ≤ 12):=⟨by omega⟩
 have HMI:Aside0 (Builtin.min2 (.int .i64 (raw.length:Int)) (.int .i64 12) = pure (.int .i64 (m:Int))):=⟨by
  rw [min2_int]
  congr 2
  split <;> omega⟩
 have H:Aside0 (paintsL raw site m 0 0 [] = some r):=⟨by rw [hm];exact h⟩
 have HR0:=Aside0.mk hr0
 have HC0:=Aside0.mk hc0
 clear hm h hr0 hc0
 go_enter Try.func35,Try.ntmps35
 go_upto_region 3 with (fail)
 obtain ⟨w1,hw1⟩:∃ W,W = w.alloc (Obj.cells #[.slice A0 raw.length c0,.int .i64 0] 79):=⟨_,rfl⟩
 obtain ⟨gd,hgd⟩:∃ g,g = w.heap.size:=⟨_,rfl⟩
 have HP1:Aside0 (PaS w gd raw 0 (.slice none 0 0) [] w1):=⟨by
  rw [hw1,hgd]
  exact ⟨⟨A0,c0,blk_new w _,HR0.out,HC0.out⟩,Nat.le_refl _,Kd.R_nil _ _ _ _ _,below_alloc (Below.refl _ _) _⟩⟩
 rw [← hw1,← hgd]
 clear hw1 hgd HR0 HC0
 have hmi:=HMI.out
 go_wp2_with (fail)
 clear hmi
 go_loopg [5,15] m (fun n v5 v15 wr=>∃ (i u:Nat) (va:Value) (out:List S128),va = v5 ∧ v15 = .int .i64 (i:Int) ∧ Aside0 (n + i = m ∧ u ≤ 5 * i ∧ out.length = i) ∧ Aside0 (paintsL raw site n i u out = some r) ∧ Aside0 (PaS w gd raw u va out wr))
 case atStart=>exact ⟨0,0,_,[],rfl,rfl,⟨⟨rfl,by omega,rfl⟩⟩,H,HP1⟩
 case round =>
  obtain ⟨i,u,v5,out,rfl,rfl,HI,HL,HP⟩:=hrel
  clear H HP1
  by_cases d1:i < m
  rotate_left
  ·have g1:decide ((i:Int) < (m:Int)) = false:=decide_eq_false (by omega)
   have g1':decide (i < m) = false:=decide_eq_false d1
   have HX:Aside0 (out = r):=⟨by
    have h1:=HL.out
    have h2:gk = 0:=by have:=HI.out;omega
    rw [h2] at h1
    exact Option.some.inj h1⟩
   clear d1
   go_wp2
   go_ret
   exact ⟨_,rfl,by rw [← HX.out];exact HP.out.row,HP.out.bel⟩
  have g1:decide ((i:Int) < (m:Int)) = true:=decide_eq_true (by omega)
  have g1':decide (i < m) = true:=decide_eq_true d1
  obtain ⟨gl,rfl⟩:∃ gl,gk = gl + 1:=⟨gk - 1,by have:=HI.out;omega⟩
  have hl:=HL.out
  rw [paintsL] at hl
  obtain ⟨px,hpx,hl⟩:=Option.bind_eq_some_iff.1 hl
  unfold paintF at hpx
  obtain ⟨a,ha,hpx⟩:=Option.bind_eq_some_iff.1 hpx
  obtain ⟨b,hb,hpx⟩:=Option.bind_eq_some_iff.1 hpx
  obtain ⟨c,hc,hpx⟩:=Option.bind_eq_some_iff.1 hpx
  obtain ⟨a0,a1⟩:=roll_range (by omega) (by omega) ha
  obtain ⟨b0,b1⟩:=roll_range (by omega) (by omega) hb
  have HRa:=Aside0.mk ha
  have HRb:=Aside0.mk hb
  have HRc:=Aside0.mk hc
  have HLX:=Aside0.mk hl
  have HPX:=Aside0.mk hpx
  have hru:∀ x,x ≤ rollU raw x ∧ rollU raw x ≤ x + 1:=fun x=>by unfold rollU;split <;> omega
  have HUa:Aside0 (u < 4611686018427387904):=⟨by have:=HI.out;have:=HM.out;omega⟩
  have HUb:Aside0 (rollU raw u < 4611686018427387904):=⟨by have:=HI.out;have:=HM.out;have:=hru u;omega⟩
  have HUc:Aside0 (rollU raw (rollU raw u) < 4611686018427387904):=⟨by have:=HI.out;have:=HM.out;have:=hru u;have:=hru (rollU raw u);omega⟩
  obtain ⟨u3,hu3⟩:∃ x,x = rollU raw (rollU raw (rollU raw u)):=⟨_,rfl⟩
  have HU3:Aside0 (rollU raw (rollU raw (rollU raw u)) = u3 ∧ u3 ≤ 5 * i + 3):=⟨hu3.symm,by have:=HI.out;have:=hru u;have:=hru (rollU raw u);have:=hru (rollU raw (rollU raw u));omega⟩
  have HUd:Aside0 (u3 < 4611686018427387904):=⟨by have:=HU3.out;have:=HM.out;omega⟩
  have HUe:Aside0 (rollU raw u3 < 4611686018427387904):=⟨by have:=HU3.out;have:=HM.out;have:=hru u3;omega⟩
  have HU5:Aside0 (rollU raw (rollU raw u3) ≤ 5 * (i + 1)):=⟨by have:=HU3.out;have:=hru u3;have:=hru (rollU raw u3);omega⟩
  rw [← hu3] at HPX
  have hi12:i < 12:=by have:=HM.out;omega
  have wk:wrap64 ((i:Int) + 1) = (i:Int) + 1:=by unfold wrap64;omega
  have HWK:=Aside0.mk wk
  have HNI:=Aside0.mk hi12
  have w1k:IntKind.i64.wrap ((i:Int) * 2) = (i:Int) * 2:=wrap_k (by omega) (by omega)
  have w2k:IntKind.i64.wrap (1 + (i:Int) * 2) = 1 + (i:Int) * 2:=wrap_k (by omega) (by omega)
  have w3k:IntKind.i64.wrap (1 + (i:Int) * 2 + a) = 1 + (i:Int) * 2 + a:=wrap_k (by omega) (by omega)
  have w4k:IntKind.i64.wrap (1 + b) = 1 + b:=wrap_k (by omega) (by omega)
  clear hu3 hru HL hl hpx ha hb hc wk d1 a0 a1 b0 b1 hi12
  go_upto_region 7 with (first | (go_at_call 40;(with_reducible refine (HP.out.roll_calls HUa.out HRa.out).mono ?_);rintro e1 w2 ⟨rfl,hP,_,_⟩;have HP2:=Aside0.mk hP;clear hP) | (go_at_call 40;(with_reducible refine (HP2.out.roll_calls HUb.out HRb.out).mono ?_);rintro e2 w3 ⟨rfl,hP,_,_⟩;have HP3:=Aside0.mk hP;clear hP))
  clear w1k w2k w3k w4k
  obtain ⟨w4,hw4⟩:∃ W,W = w3.alloc (Obj.cells #[.int .i64 (1 + (i:Int) * 2 + a),.int .i64 site,.int .i64 0,.int .i64 (1 + b),.int .i64 0,.string ⟨#[]⟩,.string ⟨#[]⟩,.string ⟨#[]⟩] 128):=⟨_,rfl⟩
  obtain ⟨g,hgn⟩:∃ g,g = w3.heap.size:=⟨_,rfl⟩
  have HG4:Aside0 (w4.heap[g]? = some (.cells #[.int .i64 (1 + (i:Int) * 2 + a),.int .i64 site,.int .i64 0,.int .i64 (1 + b),.int .i64 0,.string ⟨#[]⟩,.string ⟨#[]⟩,.string ⟨#[]⟩] 128 (0,0))):=⟨by rw [hw4,hgn];exact blk_new w3 _⟩
  have HP4:Aside0 (PaS w gd raw (rollU raw (rollU raw u)) v5 out w4):=⟨by rw [hw4];exact HP3.out.below (below_alloc (Below.refl _ _) _)⟩
  have HGL:Aside0 (w.heap.size ≤ g):=⟨by rw [hgn];exact HP3.out.size⟩
  have HGN:Aside0 (v5.ownBlock ≠ some g):=⟨fun e=>by
   obtain ⟨inner,ho⟩:=Kd.R_own HP3.out.row
   have:=own_lt ho g e
   omega⟩
  rw [← hw4,← hgn]
  clear hw4 hgn HP2 HP3 HP HUa HUb HRa HRb
  by_cases d2:c = 0
  ·have hpx:=HPX.out
   rw [if_pos d2] at hpx
   obtain ⟨d,hd,hpx⟩:=Option.bind_eq_some_iff.1 hpx
   obtain ⟨e,he,hpx⟩:=Option.bind_eq_some_iff.1 hpx
   obtain rfl:=Option.some.inj hpx
   obtain ⟨hd0,hd1⟩:=roll_range (by omega) (by omega) hd
   obtain ⟨he0,he1⟩:=roll_range (by omega) (by omega) he
   have HRd:=Aside0.mk hd
   have HRe:=Aside0.mk he
   have HBd:=Aside0.mk (And.intro hd0 hd1)
   have HBe:=Aside0.mk (And.intro he0 he1)
   have t1:(c == 0) = true:=by simpa using d2
   clear hpx hd he d2
   go_upto_region 8 with (go_at_call 40;(with_reducible refine (HP4.out.roll_calls HUc.out HRc.out).mono ?_);rintro e3 w5 ⟨rfl,hP,hfr,_⟩;have HP5:=Aside0.mk hP;have HG5:=Aside0.mk ((hfr g _ 128 (by decide) HG4.out).trans HG4.out);clear hP hfr)
   rw [HU3.out.1] at HP5
   have HP:=Aside0.mk HP5.out.drew
   have HG:=Aside0.mk (blk_drew HG5.out)
   clear HP4 HG4 HP5 HG5 HRc HUc
   refine start_ (n:=16) (S:=fun w'=>True) (ds:=[15]) #[false,false,false,false,false,false,false,false,false,false,false,false,false,false,false,false] (by kernel_rfl) rfl rfl trivial (fun hHeld=>?_)
   refine pure_ (i:=1) (N:=some 33) (v:=?_) (a':=?_) (bm 2 16) rfl rfl (by kernel_rfl) (fun _ _ _ h=>h) (Or.inl ⟨by rfl,?_⟩) ?_ ?_
   rotate_left
   ·intro w'
    go_simp
    with_reducible rfl
   rotate_left
   ·simp only [Act.put,sA,sB,sC,i64_w,i32_w]
    rfl
   refine pure_ (i:=6) (N:=some 38) (v:=?_) (a':=?_) (bm 66 16) rfl rfl (by kernel_rfl) (fun _ _ _ h=>h) (Or.inl ⟨by rfl,?_⟩) ?_ ?_
   rotate_left
   ·intro w'
    go_simp
    with_reducible rfl
   rotate_left
   ·simp only [Act.put,sA,sB,sC,i64_w,i32_w]
    rfl
   refine pure_ (i:=10) (N:=some 42) (v:=?_) (a':=?_) (bm 1090 16) rfl rfl (by kernel_rfl) (fun _ _ _ h=>h) (Or.inl ⟨by rfl,?_⟩) ?_ ?_
   rotate_left
   ·intro w'
    go_simp
    with_reducible rfl
   rotate_left
   ·simp only [Act.put,sA,sB,sC,i64_w,i32_w]
    rfl
   refine join_ (σ:=Addr × Nat × Addr × Nat) 2 (bm 16383 16) (fun s_=>[(32,.slice (some s_.1) 2 s_.2.1),(34,.int .i64 d),(36,.string (xyS d)),(37,.slice (some s_.2.2.1) 3 s_.2.2.2),(39,.int .i64 e),(41,.string (noS e)),(35,.pointer (some (s_.1.add d.toNat))),(40,.pointer (some (s_.2.2.1.add e.toNat))),(43,.pointer (some ⟨g,6,none⟩))]) (fun s_ w'=>(PaS w gd raw (rollU raw (rollU raw u3)) v5 out w') ∧ (w'.heap[g]? = some (.cells #[.int .i64 (1 + (i:Int) * 2 + a),.int .i64 site,.int .i64 1,.int .i64 (1 + b),.int .i64 0,.string ⟨#[]⟩,.string (xyS d),.string ⟨#[]⟩] 128 (0,0)))) ?_ ?_
   rotate_left
   ·intro hJ0_2_4_5_7_9_11_13
    refine join_ (σ:=Addr × Nat × Addr × Nat) 3 (bm 8191 16) (fun s_=>[(32,.slice (some s_.1) 2 s_.2.1),(34,.int .i64 d),(36,.string (xyS d)),(37,.slice (some s_.2.2.1) 3 s_.2.2.2),(39,.int .i64 e),(41,.string (noS e)),(35,.pointer (some (s_.1.add d.toNat))),(40,.pointer (some (s_.2.2.1.add e.toNat))),(43,.pointer (some ⟨g,6,none⟩))]) (fun s_ w'=>(PaS w gd raw (rollU raw (rollU raw u3)) v5 out w') ∧ (w'.heap[g]? = some (.cells #[.int .i64 (1 + (i:Int) * 2 + a),.int .i64 site,.int .i64 1,.int .i64 (1 + b),.int .i64 0,.string ⟨#[]⟩,.string ⟨#[]⟩,.string ⟨#[]⟩] 128 (0,0)))) ?_ ?_
    rotate_left
    ·intro hJ0_2_4_5_7_9_11
     refine join_ (σ:=Addr × Nat × Addr × Nat) 3 (bm 15871 16) (fun s_=>[(32,.slice (some s_.1) 2 s_.2.1),(34,.int .i64 d),(36,.string (xyS d)),(37,.slice (some s_.2.2.1) 3 s_.2.2.2),(39,.int .i64 e),(35,.pointer (some (s_.1.add d.toNat))),(40,.pointer (some (s_.2.2.1.add e.toNat))),(43,.pointer (some ⟨g,6,none⟩))]) (fun s_ w'=>(PaS w gd raw (rollU raw (rollU raw u3)) v5 out w') ∧ (w'.heap[g]? = some (.cells #[.int .i64 (1 + (i:Int) * 2 + a),.int .i64 site,.int .i64 1,.int .i64 (1 + b),.int .i64 0,.string ⟨#[]⟩,.string (xyS d),.string ⟨#[]⟩] 128 (0,0))) ∧ (Kd.R Kd.string 9 w' w.heap.size (fun _=>True) (.slice (some s_.2.2.1) 3 s_.2.2.2) ([⟨#[]⟩,⟨#[49]⟩,⟨#[50]⟩]:List ByteArray))) ?_ ?_
     rotate_left
     ·intro hJ0_2_4_5_7_11_13
      refine join_ (σ:=Addr × Nat × Addr × Nat) 5 (bm 2047 16) (fun s_=>[(32,.slice (some s_.1) 2 s_.2.1),(34,.int .i64 d),(36,.string (xyS d)),(37,.slice (some s_.2.2.1) 3 s_.2.2.2),(39,.int .i64 e),(41,.string (noS e)),(35,.pointer (some (s_.1.add d.toNat))),(40,.pointer (some (s_.2.2.1.add e.toNat)))]) (fun s_ w'=>(PaS w gd raw (rollU raw (rollU raw u3)) v5 out w') ∧ (w'.heap[g]? = some (.cells #[.int .i64 (1 + (i:Int) * 2 + a),.int .i64 site,.int .i64 0,.int .i64 (1 + b),.int .i64 0,.string ⟨#[]⟩,.string ⟨#[]⟩,.string ⟨#[]⟩] 128 (0,0)))) ?_ ?_
      rotate_left
      ·intro hJ0_2_4_5_7_9
       refine join_ (σ:=Addr × Nat × Addr × Nat) 4 (bm 7679 16) (fun s_=>[(32,.slice (some s_.1) 2 s_.2.1),(34,.int .i64 d),(36,.string (xyS d)),(37,.slice (some s_.2.2.1) 3 s_.2.2.2),(39,.int .i64 e),(35,.pointer (some (s_.1.add d.toNat))),(40,.pointer (some (s_.2.2.1.add e.toNat))),(43,.pointer (some ⟨g,6,none⟩))]) (fun s_ w'=>(PaS w gd raw (rollU raw (rollU raw u3)) v5 out w') ∧ (w'.heap[g]? = some (.cells #[.int .i64 (1 + (i:Int) * 2 + a),.int .i64 site,.int .i64 1,.int .i64 (1 + b),.int .i64 0,.string ⟨#[]⟩,.string ⟨#[]⟩,.string ⟨#[]⟩] 128 (0,0))) ∧ (Kd.R Kd.string 9 w' w.heap.size (fun _=>True) (.slice (some s_.2.2.1) 3 s_.2.2.2) ([⟨#[]⟩,⟨#[49]⟩,⟨#[50]⟩]:List ByteArray))) ?_ ?_
       rotate_left
       ·intro hJ0_2_4_5_7_11
        refine join_ (σ:=Addr × Nat) 5 (bm 15583 16) (fun s_=>[(32,.slice (some s_.1) 2 s_.2),(34,.int .i64 d),(36,.string (xyS d)),(39,.int .i64 e),(35,.pointer (some (s_.1.add d.toNat))),(43,.pointer (some ⟨g,6,none⟩))]) (fun s_ w'=>(PaS w gd raw (rollU raw (rollU raw u3)) v5 out w') ∧ (w'.heap[g]? = some (.cells #[.int .i64 (1 + (i:Int) * 2 + a),.int .i64 site,.int .i64 1,.int .i64 (1 + b),.int .i64 0,.string ⟨#[]⟩,.string (xyS d),.string ⟨#[]⟩] 128 (0,0)))) ?_ ?_
        rotate_left
        ·intro hJ0_2_4_7_11_13
         refine join_ (σ:=Addr × Nat × Addr × Nat) 5 (bm 4079 16) (fun s_=>[(32,.slice (some s_.1) 2 s_.2.1),(34,.int .i64 d),(37,.slice (some s_.2.2.1) 3 s_.2.2.2),(39,.int .i64 e),(41,.string (noS e)),(35,.pointer (some (s_.1.add d.toNat))),(40,.pointer (some (s_.2.2.1.add e.toNat)))]) (fun s_ w'=>(PaS w gd raw (rollU raw (rollU raw u3)) v5 out w') ∧ (w'.heap[g]? = some (.cells #[.int .i64 (1 + (i:Int) * 2 + a),.int .i64 site,.int .i64 1,.int .i64 (1 + b),.int .i64 0,.string ⟨#[]⟩,.string ⟨#[]⟩,.string ⟨#[]⟩] 128 (0,0))) ∧ (Kd.R Kd.string 9 w' w.heap.size (fun _=>True) (.slice (some s_.1) 2 s_.2.1) ([⟨#[120]⟩,⟨#[121]⟩]:List ByteArray))) ?_ ?_
         rotate_left
         ·intro hJ0_2_5_7_9_11
          refine join_ (σ:=Addr × Nat × Addr × Nat) 6 (bm 1535 16) (fun s_=>[(32,.slice (some s_.1) 2 s_.2.1),(34,.int .i64 d),(36,.string (xyS d)),(37,.slice (some s_.2.2.1) 3 s_.2.2.2),(39,.int .i64 e),(35,.pointer (some (s_.1.add d.toNat))),(40,.pointer (some (s_.2.2.1.add e.toNat)))]) (fun s_ w'=>(PaS w gd raw (rollU raw (rollU raw u3)) v5 out w') ∧ (w'.heap[g]? = some (.cells #[.int .i64 (1 + (i:Int) * 2 + a),.int .i64 site,.int .i64 0,.int .i64 (1 + b),.int .i64 0,.string ⟨#[]⟩,.string ⟨#[]⟩,.string ⟨#[]⟩] 128 (0,0))) ∧ (Kd.R Kd.string 9 w' w.heap.size (fun _=>True) (.slice (some s_.2.2.1) 3 s_.2.2.2) ([⟨#[]⟩,⟨#[49]⟩,⟨#[50]⟩]:List ByteArray))) ?_ ?_
          rotate_left
          ·intro hJ0_2_4_5_7
           refine join_ (σ:=Addr × Nat) 6 (bm 7391 16) (fun s_=>[(32,.slice (some s_.1) 2 s_.2),(34,.int .i64 d),(36,.string (xyS d)),(39,.int .i64 e),(35,.pointer (some (s_.1.add d.toNat))),(43,.pointer (some ⟨g,6,none⟩))]) (fun s_ w'=>(PaS w gd raw (rollU raw (rollU raw u3)) v5 out w') ∧ (w'.heap[g]? = some (.cells #[.int .i64 (1 + (i:Int) * 2 + a),.int .i64 site,.int .i64 1,.int .i64 (1 + b),.int .i64 0,.string ⟨#[]⟩,.string ⟨#[]⟩,.string ⟨#[]⟩] 128 (0,0)))) ?_ ?_
           rotate_left
           ·intro hJ0_2_4_7_11
            refine join_ (σ:=Addr × Nat × Addr × Nat) 6 (bm 2031 16) (fun s_=>[(32,.slice (some s_.1) 2 s_.2.1),(34,.int .i64 d),(37,.slice (some s_.2.2.1) 3 s_.2.2.2),(39,.int .i64 e),(41,.string (noS e)),(35,.pointer (some (s_.1.add d.toNat))),(40,.pointer (some (s_.2.2.1.add e.toNat)))]) (fun s_ w'=>(PaS w gd raw (rollU raw (rollU raw u3)) v5 out w') ∧ (w'.heap[g]? = some (.cells #[.int .i64 (1 + (i:Int) * 2 + a),.int .i64 site,.int .i64 0,.int .i64 (1 + b),.int .i64 0,.string ⟨#[]⟩,.string ⟨#[]⟩,.string ⟨#[]⟩] 128 (0,0))) ∧ (Kd.R Kd.string 9 w' w.heap.size (fun _=>True) (.slice (some s_.1) 2 s_.2.1) ([⟨#[120]⟩,⟨#[121]⟩]:List ByteArray))) ?_ ?_
            rotate_left
            ·intro hJ0_2_5_7_9
             refine join_ (σ:=Addr × Nat × Addr × Nat) 6 (bm 3567 16) (fun s_=>[(32,.slice (some s_.1) 2 s_.2.1),(34,.int .i64 d),(37,.slice (some s_.2.2.1) 3 s_.2.2.2),(39,.int .i64 e),(35,.pointer (some (s_.1.add d.toNat))),(40,.pointer (some (s_.2.2.1.add e.toNat)))]) (fun s_ w'=>(PaS w gd raw (rollU raw (rollU raw u3)) v5 out w') ∧ (w'.heap[g]? = some (.cells #[.int .i64 (1 + (i:Int) * 2 + a),.int .i64 site,.int .i64 1,.int .i64 (1 + b),.int .i64 0,.string ⟨#[]⟩,.string ⟨#[]⟩,.string ⟨#[]⟩] 128 (0,0))) ∧ (Kd.R Kd.string 9 w' w.heap.size (fun _=>True) (.slice (some s_.1) 2 s_.2.1) ([⟨#[120]⟩,⟨#[121]⟩]:List ByteArray)) ∧ (Kd.R Kd.string 9 w' w.heap.size (fun _=>True) (.slice (some s_.2.2.1) 3 s_.2.2.2) ([⟨#[]⟩,⟨#[49]⟩,⟨#[50]⟩]:List ByteArray))) ?_ ?_
             rotate_left
             ·intro hJ0_2_5_7_11
              refine join_ (σ:=Addr × Nat) 7 (bm 4070 16) (fun s_=>[(34,.int .i64 d),(37,.slice (some s_.1) 3 s_.2),(39,.int .i64 e),(41,.string (noS e)),(40,.pointer (some (s_.1.add e.toNat)))]) (fun s_ w'=>(PaS w gd raw (rollU raw (rollU raw u3)) v5 out w') ∧ (w'.heap[g]? = some (.cells #[.int .i64 (1 + (i:Int) * 2 + a),.int .i64 site,.int .i64 1,.int .i64 (1 + b),.int .i64 0,.string ⟨#[]⟩,.string ⟨#[]⟩,.string ⟨#[]⟩] 128 (0,0)))) ?_ ?_
              rotate_left
              ·intro hJ2_5_7_9_11
               refine join_ (σ:=Addr × Nat × Addr × Nat) 8 (bm 1151 16) (fun s_=>[(32,.slice (some s_.1) 2 s_.2.1),(34,.int .i64 d),(36,.string (xyS d)),(37,.slice (some s_.2.2.1) 3 s_.2.2.2),(35,.pointer (some (s_.1.add d.toNat)))]) (fun s_ w'=>(PaS w gd raw (rollU raw u3) v5 out w') ∧ (w'.heap[g]? = some (.cells #[.int .i64 (1 + (i:Int) * 2 + a),.int .i64 site,.int .i64 0,.int .i64 (1 + b),.int .i64 0,.string ⟨#[]⟩,.string ⟨#[]⟩,.string ⟨#[]⟩] 128 (0,0))) ∧ (Kd.R Kd.string 9 w' w.heap.size (fun _=>True) (.slice (some s_.2.2.1) 3 s_.2.2.2) ([⟨#[]⟩,⟨#[49]⟩,⟨#[50]⟩]:List ByteArray))) ?_ ?_
               rotate_left
               ·intro hJ0_2_4_5
                refine join_ (σ:=Addr × Nat) 8 (bm 1247 16) (fun s_=>[(32,.slice (some s_.1) 2 s_.2),(34,.int .i64 d),(36,.string (xyS d)),(39,.int .i64 e),(35,.pointer (some (s_.1.add d.toNat)))]) (fun s_ w'=>(PaS w gd raw (rollU raw (rollU raw u3)) v5 out w') ∧ (w'.heap[g]? = some (.cells #[.int .i64 (1 + (i:Int) * 2 + a),.int .i64 site,.int .i64 0,.int .i64 (1 + b),.int .i64 0,.string ⟨#[]⟩,.string ⟨#[]⟩,.string ⟨#[]⟩] 128 (0,0)))) ?_ ?_
                rotate_left
                ·intro hJ0_2_4_7
                 refine join_ (σ:=Addr × Nat × Addr × Nat) 7 (bm 1519 16) (fun s_=>[(32,.slice (some s_.1) 2 s_.2.1),(34,.int .i64 d),(37,.slice (some s_.2.2.1) 3 s_.2.2.2),(39,.int .i64 e),(35,.pointer (some (s_.1.add d.toNat))),(40,.pointer (some (s_.2.2.1.add e.toNat)))]) (fun s_ w'=>(PaS w gd raw (rollU raw (rollU raw u3)) v5 out w') ∧ (w'.heap[g]? = some (.cells #[.int .i64 (1 + (i:Int) * 2 + a),.int .i64 site,.int .i64 0,.int .i64 (1 + b),.int .i64 0,.string ⟨#[]⟩,.string ⟨#[]⟩,.string ⟨#[]⟩] 128 (0,0))) ∧ (Kd.R Kd.string 9 w' w.heap.size (fun _=>True) (.slice (some s_.1) 2 s_.2.1) ([⟨#[120]⟩,⟨#[121]⟩]:List ByteArray)) ∧ (Kd.R Kd.string 9 w' w.heap.size (fun _=>True) (.slice (some s_.2.2.1) 3 s_.2.2.2) ([⟨#[]⟩,⟨#[49]⟩,⟨#[50]⟩]:List ByteArray))) ?_ ?_
                 rotate_left
                 ·intro hJ0_2_5_7
                  refine join_ (σ:=Addr × Nat) 8 (bm 3279 16) (fun s_=>[(32,.slice (some s_.1) 2 s_.2),(34,.int .i64 d),(39,.int .i64 e),(35,.pointer (some (s_.1.add d.toNat)))]) (fun s_ w'=>(PaS w gd raw (rollU raw (rollU raw u3)) v5 out w') ∧ (w'.heap[g]? = some (.cells #[.int .i64 (1 + (i:Int) * 2 + a),.int .i64 site,.int .i64 1,.int .i64 (1 + b),.int .i64 0,.string ⟨#[]⟩,.string ⟨#[]⟩,.string ⟨#[]⟩] 128 (0,0))) ∧ (Kd.R Kd.string 9 w' w.heap.size (fun _=>True) (.slice (some s_.1) 2 s_.2) ([⟨#[120]⟩,⟨#[121]⟩]:List ByteArray))) ?_ ?_
                  rotate_left
                  ·intro hJ0_2_7_11
                   refine join_ (σ:=Addr × Nat) 8 (bm 2022 16) (fun s_=>[(34,.int .i64 d),(37,.slice (some s_.1) 3 s_.2),(39,.int .i64 e),(41,.string (noS e)),(40,.pointer (some (s_.1.add e.toNat)))]) (fun s_ w'=>(PaS w gd raw (rollU raw (rollU raw u3)) v5 out w') ∧ (w'.heap[g]? = some (.cells #[.int .i64 (1 + (i:Int) * 2 + a),.int .i64 site,.int .i64 0,.int .i64 (1 + b),.int .i64 0,.string ⟨#[]⟩,.string ⟨#[]⟩,.string ⟨#[]⟩] 128 (0,0)))) ?_ ?_
                   rotate_left
                   ·intro hJ2_5_7_9
                    refine join_ (σ:=Addr × Nat) 8 (bm 3558 16) (fun s_=>[(34,.int .i64 d),(37,.slice (some s_.1) 3 s_.2),(39,.int .i64 e),(40,.pointer (some (s_.1.add e.toNat)))]) (fun s_ w'=>(PaS w gd raw (rollU raw (rollU raw u3)) v5 out w') ∧ (w'.heap[g]? = some (.cells #[.int .i64 (1 + (i:Int) * 2 + a),.int .i64 site,.int .i64 1,.int .i64 (1 + b),.int .i64 0,.string ⟨#[]⟩,.string ⟨#[]⟩,.string ⟨#[]⟩] 128 (0,0))) ∧ (Kd.R Kd.string 9 w' w.heap.size (fun _=>True) (.slice (some s_.1) 3 s_.2) ([⟨#[]⟩,⟨#[49]⟩,⟨#[50]⟩]:List ByteArray))) ?_ ?_
                    rotate_left
                    ·intro hJ2_5_7_11
                     refine join_ (σ:=Addr × Nat) 9 (bm 1119 16) (fun s_=>[(32,.slice (some s_.1) 2 s_.2),(34,.int .i64 d),(36,.string (xyS d)),(35,.pointer (some (s_.1.add d.toNat)))]) (fun s_ w'=>(PaS w gd raw (rollU raw u3) v5 out w') ∧ (w'.heap[g]? = some (.cells #[.int .i64 (1 + (i:Int) * 2 + a),.int .i64 site,.int .i64 0,.int .i64 (1 + b),.int .i64 0,.string ⟨#[]⟩,.string ⟨#[]⟩,.string ⟨#[]⟩] 128 (0,0)))) ?_ ?_
                     rotate_left
                     ·intro hJ0_2_4
                      refine join_ (σ:=Addr × Nat × Addr × Nat) 9 (bm 1135 16) (fun s_=>[(32,.slice (some s_.1) 2 s_.2.1),(34,.int .i64 d),(37,.slice (some s_.2.2.1) 3 s_.2.2.2),(35,.pointer (some (s_.1.add d.toNat)))]) (fun s_ w'=>(PaS w gd raw (rollU raw u3) v5 out w') ∧ (w'.heap[g]? = some (.cells #[.int .i64 (1 + (i:Int) * 2 + a),.int .i64 site,.int .i64 0,.int .i64 (1 + b),.int .i64 0,.string ⟨#[]⟩,.string ⟨#[]⟩,.string ⟨#[]⟩] 128 (0,0))) ∧ (Kd.R Kd.string 9 w' w.heap.size (fun _=>True) (.slice (some s_.1) 2 s_.2.1) ([⟨#[120]⟩,⟨#[121]⟩]:List ByteArray)) ∧ (Kd.R Kd.string 9 w' w.heap.size (fun _=>True) (.slice (some s_.2.2.1) 3 s_.2.2.2) ([⟨#[]⟩,⟨#[49]⟩,⟨#[50]⟩]:List ByteArray))) ?_ ?_
                      rotate_left
                      ·intro hJ0_2_5
                       refine join_ (σ:=Addr × Nat) 9 (bm 1231 16) (fun s_=>[(32,.slice (some s_.1) 2 s_.2),(34,.int .i64 d),(39,.int .i64 e),(35,.pointer (some (s_.1.add d.toNat)))]) (fun s_ w'=>(PaS w gd raw (rollU raw (rollU raw u3)) v5 out w') ∧ (w'.heap[g]? = some (.cells #[.int .i64 (1 + (i:Int) * 2 + a),.int .i64 site,.int .i64 0,.int .i64 (1 + b),.int .i64 0,.string ⟨#[]⟩,.string ⟨#[]⟩,.string ⟨#[]⟩] 128 (0,0))) ∧ (Kd.R Kd.string 9 w' w.heap.size (fun _=>True) (.slice (some s_.1) 2 s_.2) ([⟨#[120]⟩,⟨#[121]⟩]:List ByteArray))) ?_ ?_
                       rotate_left
                       ·intro hJ0_2_7
                        refine join_ (σ:=Addr × Nat) 9 (bm 1510 16) (fun s_=>[(34,.int .i64 d),(37,.slice (some s_.1) 3 s_.2),(39,.int .i64 e),(40,.pointer (some (s_.1.add e.toNat)))]) (fun s_ w'=>(PaS w gd raw (rollU raw (rollU raw u3)) v5 out w') ∧ (w'.heap[g]? = some (.cells #[.int .i64 (1 + (i:Int) * 2 + a),.int .i64 site,.int .i64 0,.int .i64 (1 + b),.int .i64 0,.string ⟨#[]⟩,.string ⟨#[]⟩,.string ⟨#[]⟩] 128 (0,0))) ∧ (Kd.R Kd.string 9 w' w.heap.size (fun _=>True) (.slice (some s_.1) 3 s_.2) ([⟨#[]⟩,⟨#[49]⟩,⟨#[50]⟩]:List ByteArray))) ?_ ?_
                        rotate_left
                        ·intro hJ2_5_7
                         refine join_ (σ:=Unit) 10 (bm 3270 16) (fun s_=>[(34,.int .i64 d),(39,.int .i64 e)]) (fun s_ w'=>(PaS w gd raw (rollU raw (rollU raw u3)) v5 out w') ∧ (w'.heap[g]? = some (.cells #[.int .i64 (1 + (i:Int) * 2 + a),.int .i64 site,.int .i64 1,.int .i64 (1 + b),.int .i64 0,.string ⟨#[]⟩,.string ⟨#[]⟩,.string ⟨#[]⟩] 128 (0,0)))) ?_ ?_
                         rotate_left
                         ·intro hJ2_7_11
                          refine join_ (σ:=Addr × Nat) 10 (bm 1103 16) (fun s_=>[(32,.slice (some s_.1) 2 s_.2),(34,.int .i64 d),(35,.pointer (some (s_.1.add d.toNat)))]) (fun s_ w'=>(PaS w gd raw (rollU raw u3) v5 out w') ∧ (w'.heap[g]? = some (.cells #[.int .i64 (1 + (i:Int) * 2 + a),.int .i64 site,.int .i64 0,.int .i64 (1 + b),.int .i64 0,.string ⟨#[]⟩,.string ⟨#[]⟩,.string ⟨#[]⟩] 128 (0,0))) ∧ (Kd.R Kd.string 9 w' w.heap.size (fun _=>True) (.slice (some s_.1) 2 s_.2) ([⟨#[120]⟩,⟨#[121]⟩]:List ByteArray))) ?_ ?_
                          rotate_left
                          ·intro hJ0_2
                           refine join_ (σ:=Addr × Nat × Addr × Nat) 11 (bm 1123 16) (fun s_=>[(32,.slice (some s_.1) 2 s_.2.1),(37,.slice (some s_.2.2.1) 3 s_.2.2.2)]) (fun s_ w'=>(PaS w gd raw u3 v5 out w') ∧ (w'.heap[g]? = some (.cells #[.int .i64 (1 + (i:Int) * 2 + a),.int .i64 site,.int .i64 0,.int .i64 (1 + b),.int .i64 0,.string ⟨#[]⟩,.string ⟨#[]⟩,.string ⟨#[]⟩] 128 (0,0))) ∧ (Kd.R Kd.string 9 w' w.heap.size (fun _=>True) (.slice (some s_.1) 2 s_.2.1) ([⟨#[120]⟩,⟨#[121]⟩]:List ByteArray)) ∧ (Kd.R Kd.string 9 w' w.heap.size (fun _=>True) (.slice (some s_.2.2.1) 3 s_.2.2.2) ([⟨#[]⟩,⟨#[49]⟩,⟨#[50]⟩]:List ByteArray))) ?_ ?_
                           rotate_left
                           ·intro hJ0_5
                            refine join_ (σ:=Addr × Nat) 11 (bm 1126 16) (fun s_=>[(34,.int .i64 d),(37,.slice (some s_.1) 3 s_.2)]) (fun s_ w'=>(PaS w gd raw (rollU raw u3) v5 out w') ∧ (w'.heap[g]? = some (.cells #[.int .i64 (1 + (i:Int) * 2 + a),.int .i64 site,.int .i64 0,.int .i64 (1 + b),.int .i64 0,.string ⟨#[]⟩,.string ⟨#[]⟩,.string ⟨#[]⟩] 128 (0,0))) ∧ (Kd.R Kd.string 9 w' w.heap.size (fun _=>True) (.slice (some s_.1) 3 s_.2) ([⟨#[]⟩,⟨#[49]⟩,⟨#[50]⟩]:List ByteArray))) ?_ ?_
                            rotate_left
                            ·intro hJ2_5
                             refine join_ (σ:=Unit) 11 (bm 1222 16) (fun s_=>[(34,.int .i64 d),(39,.int .i64 e)]) (fun s_ w'=>(PaS w gd raw (rollU raw (rollU raw u3)) v5 out w') ∧ (w'.heap[g]? = some (.cells #[.int .i64 (1 + (i:Int) * 2 + a),.int .i64 site,.int .i64 0,.int .i64 (1 + b),.int .i64 0,.string ⟨#[]⟩,.string ⟨#[]⟩,.string ⟨#[]⟩] 128 (0,0)))) ?_ ?_
                             rotate_left
                             ·intro hJ2_7
                              refine join_ (σ:=Addr × Nat) 12 (bm 1091 16) (fun s_=>[(32,.slice (some s_.1) 2 s_.2)]) (fun s_ w'=>(PaS w gd raw u3 v5 out w') ∧ (w'.heap[g]? = some (.cells #[.int .i64 (1 + (i:Int) * 2 + a),.int .i64 site,.int .i64 0,.int .i64 (1 + b),.int .i64 0,.string ⟨#[]⟩,.string ⟨#[]⟩,.string ⟨#[]⟩] 128 (0,0))) ∧ (Kd.R Kd.string 9 w' w.heap.size (fun _=>True) (.slice (some s_.1) 2 s_.2) ([⟨#[120]⟩,⟨#[121]⟩]:List ByteArray))) ?_ ?_
                              rotate_left
                              ·intro hJ0
                               refine join_ (σ:=Unit) 12 (bm 1094 16) (fun s_=>[(34,.int .i64 d)]) (fun s_ w'=>(PaS w gd raw (rollU raw u3) v5 out w') ∧ (w'.heap[g]? = some (.cells #[.int .i64 (1 + (i:Int) * 2 + a),.int .i64 site,.int .i64 0,.int .i64 (1 + b),.int .i64 0,.string ⟨#[]⟩,.string ⟨#[]⟩,.string ⟨#[]⟩] 128 (0,0)))) ?_ ?_
                               rotate_left
                               ·intro hJ2
                                refine join_ (σ:=Addr × Nat) 12 (bm 1122 16) (fun s_=>[(37,.slice (some s_.1) 3 s_.2)]) (fun s_ w'=>(PaS w gd raw u3 v5 out w') ∧ (w'.heap[g]? = some (.cells #[.int .i64 (1 + (i:Int) * 2 + a),.int .i64 site,.int .i64 0,.int .i64 (1 + b),.int .i64 0,.string ⟨#[]⟩,.string ⟨#[]⟩,.string ⟨#[]⟩] 128 (0,0))) ∧ (Kd.R Kd.string 9 w' w.heap.size (fun _=>True) (.slice (some s_.1) 3 s_.2) ([⟨#[]⟩,⟨#[49]⟩,⟨#[50]⟩]:List ByteArray))) ?_ ?_
                                rotate_left
                                ·intro hJ5
                                 refine three_ (i:=0) (j:=2) (k:=5) (Ni:=some 32) (Nj:=some 34) (Nk:=some 37) (bm 1091 16) (bm 1094 16) (bm 1122 16) rfl rfl rfl rfl rfl rfl (by kernel_rfl) (by decide) (by decide) (by decide) (fun K hK=>?_) (fun K hK=>?_) (fun K hK=>?_)
                                 ·skip
                                  refine Kd.R_lit_step Kd.string (w0:=w) w.heap.size 9 (by rfl) (N:=32) rfl (xs:=([⟨#[120]⟩,⟨#[121]⟩]:List ByteArray)) (inner:=[.string ⟨#[120]⟩,.string ⟨#[121]⟩]) (ok:=fun _=>True) (okp:=fun _=>True) ?hr ?hp (fun _ hk=>hk) trivial HP.out.bel HP.out.size (by simp) ?_
                                  case hr=>(go_simp;done)
                                  case hp=>exact Reps.one rfl (Reps.one rfl (Reps.none _ _))
                                  intro v_ w_ hR hB hg hn
                                  obtain ⟨adA_,cA_,e_⟩:=strR_ad hR (by decide)
                                  subst e_
                                  have HA:Aside0 (Kd.R Kd.string 9 w_ w.heap.size (fun _=>True) (.slice (some adA_) 2 cA_) ([⟨#[120]⟩,⟨#[121]⟩]:List ByteArray)):=⟨hR⟩
                                  have hbl:=grown_below hg
                                  have HG:=Aside0.mk ((hbl.block g (blk_lt HG.out)).trans HG.out)
                                  have HP:=Aside0.mk (HP.out.below hbl)
                                  clear hR hB hg hn hbl
                                  refine hK.out _ _ trivial (fun hHeld=>?_)
                                  clear hK K
                                  refine norm_ (a':=?_) ?_ ?_
                                  rotate_left
                                  ·show Act.put _ (some 32) _ = _
                                   simp only [Act.put,sA,sB,sC,i64_w,i32_w]
                                   rfl
                                  exact norm_ (by (simp only [putAll,Act.put,sA,sB,sC];rfl)) (hJ0 (adA_,cA_) _ ⟨HP.out,HG.out,HA.out⟩)
                                 ·skip
                                  refine goes_ Try.func40 (by kernel_rfl) rfl #[.pointer (some ⟨gd,0,none⟩),.int .i64 2] (by rfl) rfl rfl (by simp only [List.map_toArray,List.map_cons,List.map_nil];rfl) ?_
                                  with_reducible refine (HP.out.roll_calls HUd.out HRd.out).mono ?_
                                  rintro e w_ ⟨rfl,hP,hfr,hsz⟩
                                  refine ⟨_,rfl,?_⟩
                                  have HG:=Aside0.mk ((hfr g _ 128 (by decide) HG.out).trans HG.out)
                                  have HP:=Aside0.mk hP
                                  clear hP hfr hsz
                                  refine hK.out _ _ trivial (fun hHeld=>?_)
                                  clear hK K
                                  refine norm_ (a':=?_) ?_ ?_
                                  rotate_left
                                  ·show Act.put _ (some 34) _ = _
                                   simp only [Act.put,sA,sB,sC,i64_w,i32_w]
                                   rfl
                                  exact norm_ (by (simp only [putAll,Act.put,sA,sB,sC];done)) (hJ2 () _ ⟨HP.out,HG.out⟩)
                                 ·skip
                                  refine Kd.R_lit_step Kd.string (w0:=w) w.heap.size 9 (by rfl) (N:=37) rfl (xs:=([⟨#[]⟩,⟨#[49]⟩,⟨#[50]⟩]:List ByteArray)) (inner:=[.string ⟨#[]⟩,.string ⟨#[49]⟩,.string ⟨#[50]⟩]) (ok:=fun _=>True) (okp:=fun _=>True) ?hr ?hp (fun _ hk=>hk) trivial HP.out.bel HP.out.size (by simp) ?_
                                  case hr=>(go_simp;done)
                                  case hp=>exact Reps.one rfl (Reps.one rfl (Reps.one rfl (Reps.none _ _)))
                                  intro v_ w_ hR hB hg hn
                                  obtain ⟨adB_,cB_,e_⟩:=strR_ad hR (by decide)
                                  subst e_
                                  have HB:Aside0 (Kd.R Kd.string 9 w_ w.heap.size (fun _=>True) (.slice (some adB_) 3 cB_) ([⟨#[]⟩,⟨#[49]⟩,⟨#[50]⟩]:List ByteArray)):=⟨hR⟩
                                  have hbl:=grown_below hg
                                  have HG:=Aside0.mk ((hbl.block g (blk_lt HG.out)).trans HG.out)
                                  have HP:=Aside0.mk (HP.out.below hbl)
                                  clear hR hB hg hn hbl
                                  refine hK.out _ _ trivial (fun hHeld=>?_)
                                  clear hK K
                                  refine norm_ (a':=?_) ?_ ?_
                                  rotate_left
                                  ·show Act.put _ (some 37) _ = _
                                   simp only [Act.put,sA,sB,sC,i64_w,i32_w]
                                   rfl
                                  exact norm_ (by (simp only [putAll,Act.put,sA,sB,sC];rfl)) (hJ5 (adB_,cB_) _ ⟨HP.out,HG.out,HB.out⟩)
                                ·skip
                                 rintro ⟨adB_,cB_⟩ w5_ ⟨hP_,hG_,hHB_⟩
                                 have HP:Aside0 (PaS w gd raw u3 v5 out w5_):=⟨hP_⟩
                                 have HG:Aside0 (w5_.heap[g]? = some (.cells #[.int .i64 (1 + (i:Int) * 2 + a),.int .i64 site,.int .i64 0,.int .i64 (1 + b),.int .i64 0,.string ⟨#[]⟩,.string ⟨#[]⟩,.string ⟨#[]⟩] 128 (0,0))):=⟨hG_⟩
                                 have HB:Aside0 (Kd.R Kd.string 9 w5_ w.heap.size (fun _=>True) (.slice (some adB_) 3 cB_) ([⟨#[]⟩,⟨#[49]⟩,⟨#[50]⟩]:List ByteArray)):=⟨hHB_⟩
                                 clear hP_ hG_ hHB_
                                 have hHeld:True:=trivial
                                 refine norm_ (a':=?_) ?_ ?_
                                 rotate_left
                                 ·simp only [putAll,Act.put,sA,sB,sC]
                                  rfl
                                 refine two_ (i:=0) (j:=2) (Ni:=some 32) (Nj:=some 34) (bm 1123 16) (bm 1126 16) rfl rfl rfl rfl (by kernel_rfl) (by decide) (by decide) (fun K hK=>?_) (fun K hK=>?_)
                                 ·skip
                                  refine Kd.R_lit_step Kd.string (w0:=w) w.heap.size 9 (by rfl) (N:=32) rfl (xs:=([⟨#[120]⟩,⟨#[121]⟩]:List ByteArray)) (inner:=[.string ⟨#[120]⟩,.string ⟨#[121]⟩]) (ok:=fun _=>True) (okp:=fun _=>True) ?hr ?hp (fun _ hk=>hk) trivial HP.out.bel HP.out.size (by simp) ?_
                                  case hr=>(go_simp;done)
                                  case hp=>exact Reps.one rfl (Reps.one rfl (Reps.none _ _))
                                  intro v_ w_ hR hB hg hn
                                  obtain ⟨adA_,cA_,e_⟩:=strR_ad hR (by decide)
                                  subst e_
                                  have HA:Aside0 (Kd.R Kd.string 9 w_ w.heap.size (fun _=>True) (.slice (some adA_) 2 cA_) ([⟨#[120]⟩,⟨#[121]⟩]:List ByteArray)):=⟨hR⟩
                                  have hbl:=grown_below hg
                                  have HG:=Aside0.mk ((hbl.block g (blk_lt HG.out)).trans HG.out)
                                  have HP:=Aside0.mk (HP.out.below hbl)
                                  have HB:=Aside0.mk (Kd.R_below HB.out hbl)
                                  clear hR hB hg hn hbl
                                  refine hK.out _ _ trivial (fun hHeld=>?_)
                                  clear hK K
                                  refine norm_ (a':=?_) ?_ ?_
                                  rotate_left
                                  ·show Act.put _ (some 32) _ = _
                                   simp only [Act.put,sA,sB,sC,i64_w,i32_w]
                                   rfl
                                  exact norm_ (by (simp only [putAll,Act.put,sA,sB,sC];rfl)) (hJ0_5 (adA_,cA_,adB_,cB_) _ ⟨HP.out,HG.out,HA.out,HB.out⟩)
                                 ·skip
                                  refine goes_ Try.func40 (by kernel_rfl) rfl #[.pointer (some ⟨gd,0,none⟩),.int .i64 2] (by rfl) rfl rfl (by simp only [List.map_toArray,List.map_cons,List.map_nil];rfl) ?_
                                  with_reducible refine (HP.out.roll_calls HUd.out HRd.out).mono ?_
                                  rintro e w_ ⟨rfl,hP,hfr,hsz⟩
                                  refine ⟨_,rfl,?_⟩
                                  have HG:=Aside0.mk ((hfr g _ 128 (by decide) HG.out).trans HG.out)
                                  have HB:=Aside0.mk (strR_move HB.out (fun k cells hc=>hfr k cells 9 (by decide) hc))
                                  have HP:=Aside0.mk hP
                                  clear hP hfr hsz
                                  refine hK.out _ _ trivial (fun hHeld=>?_)
                                  clear hK K
                                  refine norm_ (a':=?_) ?_ ?_
                                  rotate_left
                                  ·show Act.put _ (some 34) _ = _
                                   simp only [Act.put,sA,sB,sC,i64_w,i32_w]
                                   rfl
                                  exact norm_ (by (simp only [putAll,Act.put,sA,sB,sC];done)) (hJ2_5 (adB_,cB_) _ ⟨HP.out,HG.out,HB.out⟩)
                               ·skip
                                rintro _ w2_ ⟨hP_,hG_⟩
                                have HP:Aside0 (PaS w gd raw (rollU raw u3) v5 out w2_):=⟨hP_⟩
                                have HG:Aside0 (w2_.heap[g]? = some (.cells #[.int .i64 (1 + (i:Int) * 2 + a),.int .i64 site,.int .i64 0,.int .i64 (1 + b),.int .i64 0,.string ⟨#[]⟩,.string ⟨#[]⟩,.string ⟨#[]⟩] 128 (0,0))):=⟨hG_⟩
                                clear hP_ hG_
                                have hHeld:True:=trivial
                                refine norm_ (a':=?_) ?_ ?_
                                rotate_left
                                ·simp only [putAll,Act.put,sA,sB,sC]
                                 rfl
                                refine three_ (i:=0) (j:=5) (k:=7) (Ni:=some 32) (Nj:=some 37) (Nk:=some 39) (bm 1095 16) (bm 1126 16) (bm 1222 16) rfl rfl rfl rfl rfl rfl (by kernel_rfl) (by decide) (by decide) (by decide) (fun K hK=>?_) (fun K hK=>?_) (fun K hK=>?_)
                                ·skip
                                 refine Kd.R_lit_step Kd.string (w0:=w) w.heap.size 9 (by rfl) (N:=32) rfl (xs:=([⟨#[120]⟩,⟨#[121]⟩]:List ByteArray)) (inner:=[.string ⟨#[120]⟩,.string ⟨#[121]⟩]) (ok:=fun _=>True) (okp:=fun _=>True) ?hr ?hp (fun _ hk=>hk) trivial HP.out.bel HP.out.size (by simp) ?_
                                 case hr=>(go_simp;done)
                                 case hp=>exact Reps.one rfl (Reps.one rfl (Reps.none _ _))
                                 intro v_ w_ hR hB hg hn
                                 obtain ⟨adA_,cA_,e_⟩:=strR_ad hR (by decide)
                                 subst e_
                                 have HA:Aside0 (Kd.R Kd.string 9 w_ w.heap.size (fun _=>True) (.slice (some adA_) 2 cA_) ([⟨#[120]⟩,⟨#[121]⟩]:List ByteArray)):=⟨hR⟩
                                 have hbl:=grown_below hg
                                 have HG:=Aside0.mk ((hbl.block g (blk_lt HG.out)).trans HG.out)
                                 have HP:=Aside0.mk (HP.out.below hbl)
                                 clear hR hB hg hn hbl
                                 refine hK.out _ _ trivial (fun hHeld=>?_)
                                 clear hK K
                                 refine norm_ (a':=?_) ?_ ?_
                                 rotate_left
                                 ·show Act.put _ (some 32) _ = _
                                  simp only [Act.put,sA,sB,sC,i64_w,i32_w]
                                  rfl
                                 refine pure_ (i:=3) (N:=some 35) (v:=?_) (a':=?_) (bm 1103 16) rfl rfl (by kernel_rfl) (fun _ _ _ h=>h) (Or.inl ⟨by rfl,?_⟩) ?_ ?_
                                 rotate_left
                                 ·intro w'
                                  go_simp
                                  with_reducible rfl
                                 rotate_left
                                 ·simp only [Act.put,sA,sB,sC,i64_w,i32_w]
                                  rfl
                                 exact norm_ (by (simp only [putAll,Act.put,sA,sB,sC];rfl)) (hJ0_2 (adA_,cA_) _ ⟨HP.out,HG.out,HA.out⟩)
                                ·skip
                                 refine Kd.R_lit_step Kd.string (w0:=w) w.heap.size 9 (by rfl) (N:=37) rfl (xs:=([⟨#[]⟩,⟨#[49]⟩,⟨#[50]⟩]:List ByteArray)) (inner:=[.string ⟨#[]⟩,.string ⟨#[49]⟩,.string ⟨#[50]⟩]) (ok:=fun _=>True) (okp:=fun _=>True) ?hr ?hp (fun _ hk=>hk) trivial HP.out.bel HP.out.size (by simp) ?_
                                 case hr=>(go_simp;done)
                                 case hp=>exact Reps.one rfl (Reps.one rfl (Reps.one rfl (Reps.none _ _)))
                                 intro v_ w_ hR hB hg hn
                                 obtain ⟨adB_,cB_,e_⟩:=strR_ad hR (by decide)
                                 subst e_
                                 have HB:Aside0 (Kd.R Kd.string 9 w_ w.heap.size (fun _=>True) (.slice (some adB_) 3 cB_) ([⟨#[]⟩,⟨#[49]⟩,⟨#[50]⟩]:List ByteArray)):=⟨hR⟩
                                 have hbl:=grown_below hg
                                 have HG:=Aside0.mk ((hbl.block g (blk_lt HG.out)).trans HG.out)
                                 have HP:=Aside0.mk (HP.out.below hbl)
                                 clear hR hB hg hn hbl
                                 refine hK.out _ _ trivial (fun hHeld=>?_)
                                 clear hK K
                                 refine norm_ (a':=?_) ?_ ?_
                                 rotate_left
                                 ·show Act.put _ (some 37) _ = _
                                  simp only [Act.put,sA,sB,sC,i64_w,i32_w]
                                  rfl
                                 exact norm_ (by (simp only [putAll,Act.put,sA,sB,sC];rfl)) (hJ2_5 (adB_,cB_) _ ⟨HP.out,HG.out,HB.out⟩)
                                ·skip
                                 refine goes_ Try.func40 (by kernel_rfl) rfl #[.pointer (some ⟨gd,0,none⟩),.int .i64 3] (by rfl) rfl rfl (by simp only [List.map_toArray,List.map_cons,List.map_nil];rfl) ?_
                                 with_reducible refine (HP.out.roll_calls HUe.out HRe.out).mono ?_
                                 rintro e w_ ⟨rfl,hP,hfr,hsz⟩
                                 refine ⟨_,rfl,?_⟩
                                 have HG:=Aside0.mk ((hfr g _ 128 (by decide) HG.out).trans HG.out)
                                 have HP:=Aside0.mk hP
                                 clear hP hfr hsz
                                 refine hK.out _ _ trivial (fun hHeld=>?_)
                                 clear hK K
                                 refine norm_ (a':=?_) ?_ ?_
                                 rotate_left
                                 ·show Act.put _ (some 39) _ = _
                                  simp only [Act.put,sA,sB,sC,i64_w,i32_w]
                                  rfl
                                 exact norm_ (by (simp only [putAll,Act.put,sA,sB,sC];done)) (hJ2_7 () _ ⟨HP.out,HG.out⟩)
                              ·skip
                               rintro ⟨adA_,cA_⟩ w0_ ⟨hP_,hG_,hHA_⟩
                               have HP:Aside0 (PaS w gd raw u3 v5 out w0_):=⟨hP_⟩
                               have HG:Aside0 (w0_.heap[g]? = some (.cells #[.int .i64 (1 + (i:Int) * 2 + a),.int .i64 site,.int .i64 0,.int .i64 (1 + b),.int .i64 0,.string ⟨#[]⟩,.string ⟨#[]⟩,.string ⟨#[]⟩] 128 (0,0))):=⟨hG_⟩
                               have HA:Aside0 (Kd.R Kd.string 9 w0_ w.heap.size (fun _=>True) (.slice (some adA_) 2 cA_) ([⟨#[120]⟩,⟨#[121]⟩]:List ByteArray)):=⟨hHA_⟩
                               clear hP_ hG_ hHA_
                               have hHeld:True:=trivial
                               refine norm_ (a':=?_) ?_ ?_
                               rotate_left
                               ·simp only [putAll,Act.put,sA,sB,sC]
                                rfl
                               refine two_ (i:=2) (j:=5) (Ni:=some 34) (Nj:=some 37) (bm 1095 16) (bm 1123 16) rfl rfl rfl rfl (by kernel_rfl) (by decide) (by decide) (fun K hK=>?_) (fun K hK=>?_)
                               ·skip
                                refine goes_ Try.func40 (by kernel_rfl) rfl #[.pointer (some ⟨gd,0,none⟩),.int .i64 2] (by rfl) rfl rfl (by simp only [List.map_toArray,List.map_cons,List.map_nil];rfl) ?_
                                with_reducible refine (HP.out.roll_calls HUd.out HRd.out).mono ?_
                                rintro e w_ ⟨rfl,hP,hfr,hsz⟩
                                refine ⟨_,rfl,?_⟩
                                have HG:=Aside0.mk ((hfr g _ 128 (by decide) HG.out).trans HG.out)
                                have HA:=Aside0.mk (strR_move HA.out (fun k cells hc=>hfr k cells 9 (by decide) hc))
                                have HP:=Aside0.mk hP
                                clear hP hfr hsz
                                refine hK.out _ _ trivial (fun hHeld=>?_)
                                clear hK K
                                refine norm_ (a':=?_) ?_ ?_
                                rotate_left
                                ·show Act.put _ (some 34) _ = _
                                 simp only [Act.put,sA,sB,sC,i64_w,i32_w]
                                 rfl
                                refine pure_ (i:=3) (N:=some 35) (v:=?_) (a':=?_) (bm 1103 16) rfl rfl (by kernel_rfl) (fun _ _ _ h=>h) (Or.inl ⟨by rfl,?_⟩) ?_ ?_
                                rotate_left
                                ·intro w'
                                 go_simp
                                 with_reducible rfl
                                rotate_left
                                ·simp only [Act.put,sA,sB,sC,i64_w,i32_w]
                                 rfl
                                exact norm_ (by (simp only [putAll,Act.put,sA,sB,sC];done)) (hJ0_2 (adA_,cA_) _ ⟨HP.out,HG.out,HA.out⟩)
                               ·skip
                                refine Kd.R_lit_step Kd.string (w0:=w) w.heap.size 9 (by rfl) (N:=37) rfl (xs:=([⟨#[]⟩,⟨#[49]⟩,⟨#[50]⟩]:List ByteArray)) (inner:=[.string ⟨#[]⟩,.string ⟨#[49]⟩,.string ⟨#[50]⟩]) (ok:=fun _=>True) (okp:=fun _=>True) ?hr ?hp (fun _ hk=>hk) trivial HP.out.bel HP.out.size (by simp) ?_
                                case hr=>(go_simp;done)
                                case hp=>exact Reps.one rfl (Reps.one rfl (Reps.one rfl (Reps.none _ _)))
                                intro v_ w_ hR hB hg hn
                                obtain ⟨adB_,cB_,e_⟩:=strR_ad hR (by decide)
                                subst e_
                                have HB:Aside0 (Kd.R Kd.string 9 w_ w.heap.size (fun _=>True) (.slice (some adB_) 3 cB_) ([⟨#[]⟩,⟨#[49]⟩,⟨#[50]⟩]:List ByteArray)):=⟨hR⟩
                                have hbl:=grown_below hg
                                have HG:=Aside0.mk ((hbl.block g (blk_lt HG.out)).trans HG.out)
                                have HP:=Aside0.mk (HP.out.below hbl)
                                have HA:=Aside0.mk (Kd.R_below HA.out hbl)
                                clear hR hB hg hn hbl
                                refine hK.out _ _ trivial (fun hHeld=>?_)
                                clear hK K
                                refine norm_ (a':=?_) ?_ ?_
                                rotate_left
                                ·show Act.put _ (some 37) _ = _
                                 simp only [Act.put,sA,sB,sC,i64_w,i32_w]
                                 rfl
                                exact norm_ (by (simp only [putAll,Act.put,sA,sB,sC];rfl)) (hJ0_5 (adA_,cA_,adB_,cB_) _ ⟨HP.out,HG.out,HA.out,HB.out⟩)
                             ·skip
                              rintro _ w2_7_ ⟨hP_,hG_⟩
                              have HP:Aside0 (PaS w gd raw (rollU raw (rollU raw u3)) v5 out w2_7_):=⟨hP_⟩
                              have HG:Aside0 (w2_7_.heap[g]? = some (.cells #[.int .i64 (1 + (i:Int) * 2 + a),.int .i64 site,.int .i64 0,.int .i64 (1 + b),.int .i64 0,.string ⟨#[]⟩,.string ⟨#[]⟩,.string ⟨#[]⟩] 128 (0,0))):=⟨hG_⟩
                              clear hP_ hG_
                              have hHeld:True:=trivial
                              refine norm_ (a':=?_) ?_ ?_
                              rotate_left
                              ·simp only [putAll,Act.put,sA,sB,sC]
                               rfl
                              refine three_ (i:=0) (j:=5) (k:=11) (Ni:=some 32) (Nj:=some 37) (Nk:=none) (bm 1223 16) (bm 1254 16) (bm 3270 16) rfl rfl rfl rfl rfl rfl (by kernel_rfl) (by decide) (by decide) (by decide) (fun K hK=>?_) (fun K hK=>?_) (fun K hK=>?_)
                              ·skip
                               refine Kd.R_lit_step Kd.string (w0:=w) w.heap.size 9 (by rfl) (N:=32) rfl (xs:=([⟨#[120]⟩,⟨#[121]⟩]:List ByteArray)) (inner:=[.string ⟨#[120]⟩,.string ⟨#[121]⟩]) (ok:=fun _=>True) (okp:=fun _=>True) ?hr ?hp (fun _ hk=>hk) trivial HP.out.bel HP.out.size (by simp) ?_
                               case hr=>(go_simp;done)
                               case hp=>exact Reps.one rfl (Reps.one rfl (Reps.none _ _))
                               intro v_ w_ hR hB hg hn
                               obtain ⟨adA_,cA_,e_⟩:=strR_ad hR (by decide)
                               subst e_
                               have HA:Aside0 (Kd.R Kd.string 9 w_ w.heap.size (fun _=>True) (.slice (some adA_) 2 cA_) ([⟨#[120]⟩,⟨#[121]⟩]:List ByteArray)):=⟨hR⟩
                               have hbl:=grown_below hg
                               have HG:=Aside0.mk ((hbl.block g (blk_lt HG.out)).trans HG.out)
                               have HP:=Aside0.mk (HP.out.below hbl)
                               clear hR hB hg hn hbl
                               refine hK.out _ _ trivial (fun hHeld=>?_)
                               clear hK K
                               refine norm_ (a':=?_) ?_ ?_
                               rotate_left
                               ·show Act.put _ (some 32) _ = _
                                simp only [Act.put,sA,sB,sC,i64_w,i32_w]
                                rfl
                               refine pure_ (i:=3) (N:=some 35) (v:=?_) (a':=?_) (bm 1231 16) rfl rfl (by kernel_rfl) (fun _ _ _ h=>h) (Or.inl ⟨by rfl,?_⟩) ?_ ?_
                               rotate_left
                               ·intro w'
                                go_simp
                                with_reducible rfl
                               rotate_left
                               ·simp only [Act.put,sA,sB,sC,i64_w,i32_w]
                                rfl
                               exact norm_ (by (simp only [putAll,Act.put,sA,sB,sC];rfl)) (hJ0_2_7 (adA_,cA_) _ ⟨HP.out,HG.out,HA.out⟩)
                              ·skip
                               refine Kd.R_lit_step Kd.string (w0:=w) w.heap.size 9 (by rfl) (N:=37) rfl (xs:=([⟨#[]⟩,⟨#[49]⟩,⟨#[50]⟩]:List ByteArray)) (inner:=[.string ⟨#[]⟩,.string ⟨#[49]⟩,.string ⟨#[50]⟩]) (ok:=fun _=>True) (okp:=fun _=>True) ?hr ?hp (fun _ hk=>hk) trivial HP.out.bel HP.out.size (by simp) ?_
                               case hr=>(go_simp;done)
                               case hp=>exact Reps.one rfl (Reps.one rfl (Reps.one rfl (Reps.none _ _)))
                               intro v_ w_ hR hB hg hn
                               obtain ⟨adB_,cB_,e_⟩:=strR_ad hR (by decide)
                               subst e_
                               have HB:Aside0 (Kd.R Kd.string 9 w_ w.heap.size (fun _=>True) (.slice (some adB_) 3 cB_) ([⟨#[]⟩,⟨#[49]⟩,⟨#[50]⟩]:List ByteArray)):=⟨hR⟩
                               have hbl:=grown_below hg
                               have HG:=Aside0.mk ((hbl.block g (blk_lt HG.out)).trans HG.out)
                               have HP:=Aside0.mk (HP.out.below hbl)
                               clear hR hB hg hn hbl
                               refine hK.out _ _ trivial (fun hHeld=>?_)
                               clear hK K
                               refine norm_ (a':=?_) ?_ ?_
                               rotate_left
                               ·show Act.put _ (some 37) _ = _
                                simp only [Act.put,sA,sB,sC,i64_w,i32_w]
                                rfl
                               refine pure_ (i:=8) (N:=some 40) (v:=?_) (a':=?_) (bm 1510 16) rfl rfl (by kernel_rfl) (fun _ _ _ h=>h) (Or.inl ⟨by rfl,?_⟩) ?_ ?_
                               rotate_left
                               ·intro w'
                                go_simp
                                with_reducible rfl
                               rotate_left
                               ·simp only [Act.put,sA,sB,sC,i64_w,i32_w]
                                rfl
                               exact norm_ (by (simp only [putAll,Act.put,sA,sB,sC];rfl)) (hJ2_5_7 (adB_,cB_) _ ⟨HP.out,HG.out,HB.out⟩)
                              ·skip
                               have hs_:=(blk_cell HG.out 2).trans rfl
                               have hf_:=blk_frozen HG.out 2
                               refine skip_ (w1:=?_) (by rfl) rfl ?_ ?_
                               rotate_left
                               ·go_simp
                                rfl
                               have HG0:=HG
                               have HG:=Aside0.mk (blk_put HG.out 2 (.int .i64 1) #[.int .i64 (1 + (i:Int) * 2 + a),.int .i64 site,.int .i64 1,.int .i64 (1 + b),.int .i64 0,.string ⟨#[]⟩,.string ⟨#[]⟩,.string ⟨#[]⟩] rfl)
                               have HP:=Aside0.mk (HP.out.set HG0.out HGL.out HGN.out 2 (.int .i64 1))
                               clear HG0 hs_ hf_
                               refine hK.out _ _ trivial (fun hHeld=>?_)
                               clear hK K
                               exact norm_ (by (simp only [putAll,Act.put,sA,sB,sC];done)) (hJ2_7_11 () _ ⟨HP.out,HG.out⟩)
                            ·skip
                             rintro ⟨adB_,cB_⟩ w2_5_ ⟨hP_,hG_,hHB_⟩
                             have HP:Aside0 (PaS w gd raw (rollU raw u3) v5 out w2_5_):=⟨hP_⟩
                             have HG:Aside0 (w2_5_.heap[g]? = some (.cells #[.int .i64 (1 + (i:Int) * 2 + a),.int .i64 site,.int .i64 0,.int .i64 (1 + b),.int .i64 0,.string ⟨#[]⟩,.string ⟨#[]⟩,.string ⟨#[]⟩] 128 (0,0))):=⟨hG_⟩
                             have HB:Aside0 (Kd.R Kd.string 9 w2_5_ w.heap.size (fun _=>True) (.slice (some adB_) 3 cB_) ([⟨#[]⟩,⟨#[49]⟩,⟨#[50]⟩]:List ByteArray)):=⟨hHB_⟩
                             clear hP_ hG_ hHB_
                             have hHeld:True:=trivial
                             refine norm_ (a':=?_) ?_ ?_
                             rotate_left
                             ·simp only [putAll,Act.put,sA,sB,sC]
                              rfl
                             refine two_ (i:=0) (j:=7) (Ni:=some 32) (Nj:=some 39) (bm 1127 16) (bm 1254 16) rfl rfl rfl rfl (by kernel_rfl) (by decide) (by decide) (fun K hK=>?_) (fun K hK=>?_)
                             ·skip
                              refine Kd.R_lit_step Kd.string (w0:=w) w.heap.size 9 (by rfl) (N:=32) rfl (xs:=([⟨#[120]⟩,⟨#[121]⟩]:List ByteArray)) (inner:=[.string ⟨#[120]⟩,.string ⟨#[121]⟩]) (ok:=fun _=>True) (okp:=fun _=>True) ?hr ?hp (fun _ hk=>hk) trivial HP.out.bel HP.out.size (by simp) ?_
                              case hr=>(go_simp;done)
                              case hp=>exact Reps.one rfl (Reps.one rfl (Reps.none _ _))
                              intro v_ w_ hR hB hg hn
                              obtain ⟨adA_,cA_,e_⟩:=strR_ad hR (by decide)
                              subst e_
                              have HA:Aside0 (Kd.R Kd.string 9 w_ w.heap.size (fun _=>True) (.slice (some adA_) 2 cA_) ([⟨#[120]⟩,⟨#[121]⟩]:List ByteArray)):=⟨hR⟩
                              have hbl:=grown_below hg
                              have HG:=Aside0.mk ((hbl.block g (blk_lt HG.out)).trans HG.out)
                              have HP:=Aside0.mk (HP.out.below hbl)
                              have HB:=Aside0.mk (Kd.R_below HB.out hbl)
                              clear hR hB hg hn hbl
                              refine hK.out _ _ trivial (fun hHeld=>?_)
                              clear hK K
                              refine norm_ (a':=?_) ?_ ?_
                              rotate_left
                              ·show Act.put _ (some 32) _ = _
                               simp only [Act.put,sA,sB,sC,i64_w,i32_w]
                               rfl
                              refine pure_ (i:=3) (N:=some 35) (v:=?_) (a':=?_) (bm 1135 16) rfl rfl (by kernel_rfl) (fun _ _ _ h=>h) (Or.inl ⟨by rfl,?_⟩) ?_ ?_
                              rotate_left
                              ·intro w'
                               go_simp
                               with_reducible rfl
                              rotate_left
                              ·simp only [Act.put,sA,sB,sC,i64_w,i32_w]
                               rfl
                              exact norm_ (by (simp only [putAll,Act.put,sA,sB,sC];rfl)) (hJ0_2_5 (adA_,cA_,adB_,cB_) _ ⟨HP.out,HG.out,HA.out,HB.out⟩)
                             ·skip
                              refine goes_ Try.func40 (by kernel_rfl) rfl #[.pointer (some ⟨gd,0,none⟩),.int .i64 3] (by rfl) rfl rfl (by simp only [List.map_toArray,List.map_cons,List.map_nil];rfl) ?_
                              with_reducible refine (HP.out.roll_calls HUe.out HRe.out).mono ?_
                              rintro e w_ ⟨rfl,hP,hfr,hsz⟩
                              refine ⟨_,rfl,?_⟩
                              have HG:=Aside0.mk ((hfr g _ 128 (by decide) HG.out).trans HG.out)
                              have HB:=Aside0.mk (strR_move HB.out (fun k cells hc=>hfr k cells 9 (by decide) hc))
                              have HP:=Aside0.mk hP
                              clear hP hfr hsz
                              refine hK.out _ _ trivial (fun hHeld=>?_)
                              clear hK K
                              refine norm_ (a':=?_) ?_ ?_
                              rotate_left
                              ·show Act.put _ (some 39) _ = _
                               simp only [Act.put,sA,sB,sC,i64_w,i32_w]
                               rfl
                              refine pure_ (i:=8) (N:=some 40) (v:=?_) (a':=?_) (bm 1510 16) rfl rfl (by kernel_rfl) (fun _ _ _ h=>h) (Or.inl ⟨by rfl,?_⟩) ?_ ?_
                              rotate_left
                              ·intro w'
                               go_simp
                               with_reducible rfl
                              rotate_left
                              ·simp only [Act.put,sA,sB,sC,i64_w,i32_w]
                               rfl
                              exact norm_ (by (simp only [putAll,Act.put,sA,sB,sC];done)) (hJ2_5_7 (adB_,cB_) _ ⟨HP.out,HG.out,HB.out⟩)
                           ·skip
                            rintro ⟨adA_,cA_,adB_,cB_⟩ w0_5_ ⟨hP_,hG_,hHA_,hHB_⟩
                            have HP:Aside0 (PaS w gd raw u3 v5 out w0_5_):=⟨hP_⟩
                            have HG:Aside0 (w0_5_.heap[g]? = some (.cells #[.int .i64 (1 + (i:Int) * 2 + a),.int .i64 site,.int .i64 0,.int .i64 (1 + b),.int .i64 0,.string ⟨#[]⟩,.string ⟨#[]⟩,.string ⟨#[]⟩] 128 (0,0))):=⟨hG_⟩
                            have HA:Aside0 (Kd.R Kd.string 9 w0_5_ w.heap.size (fun _=>True) (.slice (some adA_) 2 cA_) ([⟨#[120]⟩,⟨#[121]⟩]:List ByteArray)):=⟨hHA_⟩
                            have HB:Aside0 (Kd.R Kd.string 9 w0_5_ w.heap.size (fun _=>True) (.slice (some adB_) 3 cB_) ([⟨#[]⟩,⟨#[49]⟩,⟨#[50]⟩]:List ByteArray)):=⟨hHB_⟩
                            clear hP_ hG_ hHA_ hHB_
                            have hHeld:True:=trivial
                            refine norm_ (a':=?_) ?_ ?_
                            rotate_left
                            ·simp only [putAll,Act.put,sA,sB,sC]
                             rfl
                            refine one_ (i:=2) (N:=some 34) (bm 1127 16) rfl rfl (by kernel_rfl) (by decide) (fun K hK=>?_)
                            refine goes_ Try.func40 (by kernel_rfl) rfl #[.pointer (some ⟨gd,0,none⟩),.int .i64 2] (by rfl) rfl rfl (by simp only [List.map_toArray,List.map_cons,List.map_nil];rfl) ?_
                            with_reducible refine (HP.out.roll_calls HUd.out HRd.out).mono ?_
                            rintro e w_ ⟨rfl,hP,hfr,hsz⟩
                            refine ⟨_,rfl,?_⟩
                            have HG:=Aside0.mk ((hfr g _ 128 (by decide) HG.out).trans HG.out)
                            have HA:=Aside0.mk (strR_move HA.out (fun k cells hc=>hfr k cells 9 (by decide) hc))
                            have HB:=Aside0.mk (strR_move HB.out (fun k cells hc=>hfr k cells 9 (by decide) hc))
                            have HP:=Aside0.mk hP
                            clear hP hfr hsz
                            refine hK.out _ _ trivial (fun hHeld=>?_)
                            clear hK K
                            refine norm_ (a':=?_) ?_ ?_
                            rotate_left
                            ·show Act.put _ (some 34) _ = _
                             simp only [Act.put,sA,sB,sC,i64_w,i32_w]
                             rfl
                            refine pure_ (i:=3) (N:=some 35) (v:=?_) (a':=?_) (bm 1135 16) rfl rfl (by kernel_rfl) (fun _ _ _ h=>h) (Or.inl ⟨by rfl,?_⟩) ?_ ?_
                            rotate_left
                            ·intro w'
                             go_simp
                             with_reducible rfl
                            rotate_left
                            ·simp only [Act.put,sA,sB,sC,i64_w,i32_w]
                             rfl
                            exact norm_ (by (simp only [putAll,Act.put,sA,sB,sC];done)) (hJ0_2_5 (adA_,cA_,adB_,cB_) _ ⟨HP.out,HG.out,HA.out,HB.out⟩)
                          ·skip
                           rintro ⟨adA_,cA_⟩ w0_2_ ⟨hP_,hG_,hHA_⟩
                           have HP:Aside0 (PaS w gd raw (rollU raw u3) v5 out w0_2_):=⟨hP_⟩
                           have HG:Aside0 (w0_2_.heap[g]? = some (.cells #[.int .i64 (1 + (i:Int) * 2 + a),.int .i64 site,.int .i64 0,.int .i64 (1 + b),.int .i64 0,.string ⟨#[]⟩,.string ⟨#[]⟩,.string ⟨#[]⟩] 128 (0,0))):=⟨hG_⟩
                           have HA:Aside0 (Kd.R Kd.string 9 w0_2_ w.heap.size (fun _=>True) (.slice (some adA_) 2 cA_) ([⟨#[120]⟩,⟨#[121]⟩]:List ByteArray)):=⟨hHA_⟩
                           clear hP_ hG_ hHA_
                           have hHeld:True:=trivial
                           refine norm_ (a':=?_) ?_ ?_
                           rotate_left
                           ·simp only [putAll,Act.put,sA,sB,sC]
                            rfl
                           refine three_ (i:=4) (j:=5) (k:=7) (Ni:=some 36) (Nj:=some 37) (Nk:=some 39) (bm 1119 16) (bm 1135 16) (bm 1231 16) rfl rfl rfl rfl rfl rfl (by kernel_rfl) (by decide) (by decide) (by decide) (fun K hK=>?_) (fun K hK=>?_) (fun K hK=>?_)
                           ·skip
                            obtain ⟨ad',e_,hx⟩:=Kd.at_string (Kd.R_reads' HA.out).2.2 d HBd.out.1 (by have:=HBd.out.2;simp only [List.length_cons,List.length_nil];omega)
                            cases e_
                            replace hx:_ = some (Value.string (xyS d)):=hx
                            refine value_ (w1:=?_) (v:=?_) (by rfl) rfl ?_ ?_
                            rotate_left 2
                            ·go_simp
                             constructor
                             ·rfl
                             ·rfl
                            clear hx
                            refine hK.out _ _ trivial (fun hHeld=>?_)
                            clear hK K
                            refine norm_ (a':=?_) ?_ ?_
                            rotate_left
                            ·show Act.put _ (some 36) _ = _
                             simp only [Act.put,sA,sB,sC,i64_w,i32_w]
                             rfl
                            exact norm_ (by (simp only [putAll,Act.put,sA,sB,sC];done)) (hJ0_2_4 (adA_,cA_) _ ⟨HP.out,HG.out⟩)
                           ·skip
                            refine Kd.R_lit_step Kd.string (w0:=w) w.heap.size 9 (by rfl) (N:=37) rfl (xs:=([⟨#[]⟩,⟨#[49]⟩,⟨#[50]⟩]:List ByteArray)) (inner:=[.string ⟨#[]⟩,.string ⟨#[49]⟩,.string ⟨#[50]⟩]) (ok:=fun _=>True) (okp:=fun _=>True) ?hr ?hp (fun _ hk=>hk) trivial HP.out.bel HP.out.size (by simp) ?_
                            case hr=>(go_simp;done)
                            case hp=>exact Reps.one rfl (Reps.one rfl (Reps.one rfl (Reps.none _ _)))
                            intro v_ w_ hR hB hg hn
                            obtain ⟨adB_,cB_,e_⟩:=strR_ad hR (by decide)
                            subst e_
                            have HB:Aside0 (Kd.R Kd.string 9 w_ w.heap.size (fun _=>True) (.slice (some adB_) 3 cB_) ([⟨#[]⟩,⟨#[49]⟩,⟨#[50]⟩]:List ByteArray)):=⟨hR⟩
                            have hbl:=grown_below hg
                            have HG:=Aside0.mk ((hbl.block g (blk_lt HG.out)).trans HG.out)
                            have HP:=Aside0.mk (HP.out.below hbl)
                            have HA:=Aside0.mk (Kd.R_below HA.out hbl)
                            clear hR hB hg hn hbl
                            refine hK.out _ _ trivial (fun hHeld=>?_)
                            clear hK K
                            refine norm_ (a':=?_) ?_ ?_
                            rotate_left
                            ·show Act.put _ (some 37) _ = _
                             simp only [Act.put,sA,sB,sC,i64_w,i32_w]
                             rfl
                            exact norm_ (by (simp only [putAll,Act.put,sA,sB,sC];rfl)) (hJ0_2_5 (adA_,cA_,adB_,cB_) _ ⟨HP.out,HG.out,HA.out,HB.out⟩)
                           ·skip
                            refine goes_ Try.func40 (by kernel_rfl) rfl #[.pointer (some ⟨gd,0,none⟩),.int .i64 3] (by rfl) rfl rfl (by simp only [List.map_toArray,List.map_cons,List.map_nil];rfl) ?_
                            with_reducible refine (HP.out.roll_calls HUe.out HRe.out).mono ?_
                            rintro e w_ ⟨rfl,hP,hfr,hsz⟩
                            refine ⟨_,rfl,?_⟩
                            have HG:=Aside0.mk ((hfr g _ 128 (by decide) HG.out).trans HG.out)
                            have HA:=Aside0.mk (strR_move HA.out (fun k cells hc=>hfr k cells 9 (by decide) hc))
                            have HP:=Aside0.mk hP
                            clear hP hfr hsz
                            refine hK.out _ _ trivial (fun hHeld=>?_)
                            clear hK K
                            refine norm_ (a':=?_) ?_ ?_
                            rotate_left
                            ·show Act.put _ (some 39) _ = _
                             simp only [Act.put,sA,sB,sC,i64_w,i32_w]
                             rfl
                            exact norm_ (by (simp only [putAll,Act.put,sA,sB,sC];done)) (hJ0_2_7 (adA_,cA_) _ ⟨HP.out,HG.out,HA.out⟩)
                         ·skip
                          rintro _ w2_7_11_ ⟨hP_,hG_⟩
                          have HP:Aside0 (PaS w gd raw (rollU raw (rollU raw u3)) v5 out w2_7_11_):=⟨hP_⟩
                          have HG:Aside0 (w2_7_11_.heap[g]? = some (.cells #[.int .i64 (1 + (i:Int) * 2 + a),.int .i64 site,.int .i64 1,.int .i64 (1 + b),.int .i64 0,.string ⟨#[]⟩,.string ⟨#[]⟩,.string ⟨#[]⟩] 128 (0,0))):=⟨hG_⟩
                          clear hP_ hG_
                          have hHeld:True:=trivial
                          refine norm_ (a':=?_) ?_ ?_
                          rotate_left
                          ·simp only [putAll,Act.put,sA,sB,sC]
                           rfl
                          refine two_ (i:=0) (j:=5) (Ni:=some 32) (Nj:=some 37) (bm 3271 16) (bm 3302 16) rfl rfl rfl rfl (by kernel_rfl) (by decide) (by decide) (fun K hK=>?_) (fun K hK=>?_)
                          ·skip
                           refine Kd.R_lit_step Kd.string (w0:=w) w.heap.size 9 (by rfl) (N:=32) rfl (xs:=([⟨#[120]⟩,⟨#[121]⟩]:List ByteArray)) (inner:=[.string ⟨#[120]⟩,.string ⟨#[121]⟩]) (ok:=fun _=>True) (okp:=fun _=>True) ?hr ?hp (fun _ hk=>hk) trivial HP.out.bel HP.out.size (by simp) ?_
                           case hr=>(go_simp;done)
                           case hp=>exact Reps.one rfl (Reps.one rfl (Reps.none _ _))
                           intro v_ w_ hR hB hg hn
                           obtain ⟨adA_,cA_,e_⟩:=strR_ad hR (by decide)
                           subst e_
                           have HA:Aside0 (Kd.R Kd.string 9 w_ w.heap.size (fun _=>True) (.slice (some adA_) 2 cA_) ([⟨#[120]⟩,⟨#[121]⟩]:List ByteArray)):=⟨hR⟩
                           have hbl:=grown_below hg
                           have HG:=Aside0.mk ((hbl.block g (blk_lt HG.out)).trans HG.out)
                           have HP:=Aside0.mk (HP.out.below hbl)
                           clear hR hB hg hn hbl
                           refine hK.out _ _ trivial (fun hHeld=>?_)
                           clear hK K
                           refine norm_ (a':=?_) ?_ ?_
                           rotate_left
                           ·show Act.put _ (some 32) _ = _
                            simp only [Act.put,sA,sB,sC,i64_w,i32_w]
                            rfl
                           refine pure_ (i:=3) (N:=some 35) (v:=?_) (a':=?_) (bm 3279 16) rfl rfl (by kernel_rfl) (fun _ _ _ h=>h) (Or.inl ⟨by rfl,?_⟩) ?_ ?_
                           rotate_left
                           ·intro w'
                            go_simp
                            with_reducible rfl
                           rotate_left
                           ·simp only [Act.put,sA,sB,sC,i64_w,i32_w]
                            rfl
                           exact norm_ (by (simp only [putAll,Act.put,sA,sB,sC];rfl)) (hJ0_2_7_11 (adA_,cA_) _ ⟨HP.out,HG.out,HA.out⟩)
                          ·skip
                           refine Kd.R_lit_step Kd.string (w0:=w) w.heap.size 9 (by rfl) (N:=37) rfl (xs:=([⟨#[]⟩,⟨#[49]⟩,⟨#[50]⟩]:List ByteArray)) (inner:=[.string ⟨#[]⟩,.string ⟨#[49]⟩,.string ⟨#[50]⟩]) (ok:=fun _=>True) (okp:=fun _=>True) ?hr ?hp (fun _ hk=>hk) trivial HP.out.bel HP.out.size (by simp) ?_
                           case hr=>(go_simp;done)
                           case hp=>exact Reps.one rfl (Reps.one rfl (Reps.one rfl (Reps.none _ _)))
                           intro v_ w_ hR hB hg hn
                           obtain ⟨adB_,cB_,e_⟩:=strR_ad hR (by decide)
                           subst e_
                           have HB:Aside0 (Kd.R Kd.string 9 w_ w.heap.size (fun _=>True) (.slice (some adB_) 3 cB_) ([⟨#[]⟩,⟨#[49]⟩,⟨#[50]⟩]:List ByteArray)):=⟨hR⟩
                           have hbl:=grown_below hg
                           have HG:=Aside0.mk ((hbl.block g (blk_lt HG.out)).trans HG.out)
                           have HP:=Aside0.mk (HP.out.below hbl)
                           clear hR hB hg hn hbl
                           refine hK.out _ _ trivial (fun hHeld=>?_)
                           clear hK K
                           refine norm_ (a':=?_) ?_ ?_
                           rotate_left
                           ·show Act.put _ (some 37) _ = _
                            simp only [Act.put,sA,sB,sC,i64_w,i32_w]
                            rfl
                           refine pure_ (i:=8) (N:=some 40) (v:=?_) (a':=?_) (bm 3558 16) rfl rfl (by kernel_rfl) (fun _ _ _ h=>h) (Or.inl ⟨by rfl,?_⟩) ?_ ?_
                           rotate_left
                           ·intro w'
                            go_simp
                            with_reducible rfl
                           rotate_left
                           ·simp only [Act.put,sA,sB,sC,i64_w,i32_w]
                            rfl
                           exact norm_ (by (simp only [putAll,Act.put,sA,sB,sC];rfl)) (hJ2_5_7_11 (adB_,cB_) _ ⟨HP.out,HG.out,HB.out⟩)
                        ·skip
                         rintro ⟨adB_,cB_⟩ w2_5_7_ ⟨hP_,hG_,hHB_⟩
                         have HP:Aside0 (PaS w gd raw (rollU raw (rollU raw u3)) v5 out w2_5_7_):=⟨hP_⟩
                         have HG:Aside0 (w2_5_7_.heap[g]? = some (.cells #[.int .i64 (1 + (i:Int) * 2 + a),.int .i64 site,.int .i64 0,.int .i64 (1 + b),.int .i64 0,.string ⟨#[]⟩,.string ⟨#[]⟩,.string ⟨#[]⟩] 128 (0,0))):=⟨hG_⟩
                         have HB:Aside0 (Kd.R Kd.string 9 w2_5_7_ w.heap.size (fun _=>True) (.slice (some adB_) 3 cB_) ([⟨#[]⟩,⟨#[49]⟩,⟨#[50]⟩]:List ByteArray)):=⟨hHB_⟩
                         clear hP_ hG_ hHB_
                         have hHeld:True:=trivial
                         refine norm_ (a':=?_) ?_ ?_
                         rotate_left
                         ·simp only [putAll,Act.put,sA,sB,sC]
                          rfl
                         refine three_ (i:=0) (j:=9) (k:=11) (Ni:=some 32) (Nj:=some 41) (Nk:=none) (bm 1511 16) (bm 2022 16) (bm 3558 16) rfl rfl rfl rfl rfl rfl (by kernel_rfl) (by decide) (by decide) (by decide) (fun K hK=>?_) (fun K hK=>?_) (fun K hK=>?_)
                         ·skip
                          refine Kd.R_lit_step Kd.string (w0:=w) w.heap.size 9 (by rfl) (N:=32) rfl (xs:=([⟨#[120]⟩,⟨#[121]⟩]:List ByteArray)) (inner:=[.string ⟨#[120]⟩,.string ⟨#[121]⟩]) (ok:=fun _=>True) (okp:=fun _=>True) ?hr ?hp (fun _ hk=>hk) trivial HP.out.bel HP.out.size (by simp) ?_
                          case hr=>(go_simp;done)
                          case hp=>exact Reps.one rfl (Reps.one rfl (Reps.none _ _))
                          intro v_ w_ hR hB hg hn
                          obtain ⟨adA_,cA_,e_⟩:=strR_ad hR (by decide)
                          subst e_
                          have HA:Aside0 (Kd.R Kd.string 9 w_ w.heap.size (fun _=>True) (.slice (some adA_) 2 cA_) ([⟨#[120]⟩,⟨#[121]⟩]:List ByteArray)):=⟨hR⟩
                          have hbl:=grown_below hg
                          have HG:=Aside0.mk ((hbl.block g (blk_lt HG.out)).trans HG.out)
                          have HP:=Aside0.mk (HP.out.below hbl)
                          have HB:=Aside0.mk (Kd.R_below HB.out hbl)
                          clear hR hB hg hn hbl
                          refine hK.out _ _ trivial (fun hHeld=>?_)
                          clear hK K
                          refine norm_ (a':=?_) ?_ ?_
                          rotate_left
                          ·show Act.put _ (some 32) _ = _
                           simp only [Act.put,sA,sB,sC,i64_w,i32_w]
                           rfl
                          refine pure_ (i:=3) (N:=some 35) (v:=?_) (a':=?_) (bm 1519 16) rfl rfl (by kernel_rfl) (fun _ _ _ h=>h) (Or.inl ⟨by rfl,?_⟩) ?_ ?_
                          rotate_left
                          ·intro w'
                           go_simp
                           with_reducible rfl
                          rotate_left
                          ·simp only [Act.put,sA,sB,sC,i64_w,i32_w]
                           rfl
                          exact norm_ (by (simp only [putAll,Act.put,sA,sB,sC];rfl)) (hJ0_2_5_7 (adA_,cA_,adB_,cB_) _ ⟨HP.out,HG.out,HA.out,HB.out⟩)
                         ·skip
                          obtain ⟨ad',e_,hx⟩:=Kd.at_string (Kd.R_reads' HB.out).2.2 e HBe.out.1 (by have:=HBe.out.2;simp only [List.length_cons,List.length_nil];omega)
                          cases e_
                          replace hx:_ = some (Value.string (noS e)):=hx
                          refine value_ (w1:=?_) (v:=?_) (by rfl) rfl ?_ ?_
                          rotate_left 2
                          ·go_simp
                           constructor
                           ·rfl
                           ·rfl
                          clear hx
                          refine hK.out _ _ trivial (fun hHeld=>?_)
                          clear hK K
                          refine norm_ (a':=?_) ?_ ?_
                          rotate_left
                          ·show Act.put _ (some 41) _ = _
                           simp only [Act.put,sA,sB,sC,i64_w,i32_w]
                           rfl
                          exact norm_ (by (simp only [putAll,Act.put,sA,sB,sC];done)) (hJ2_5_7_9 (adB_,cB_) _ ⟨HP.out,HG.out⟩)
                         ·skip
                          have hs_:=(blk_cell HG.out 2).trans rfl
                          have hf_:=blk_frozen HG.out 2
                          refine skip_ (w1:=?_) (by rfl) rfl ?_ ?_
                          rotate_left
                          ·go_simp
                           rfl
                          have HG0:=HG
                          have HG:=Aside0.mk (blk_put HG.out 2 (.int .i64 1) #[.int .i64 (1 + (i:Int) * 2 + a),.int .i64 site,.int .i64 1,.int .i64 (1 + b),.int .i64 0,.string ⟨#[]⟩,.string ⟨#[]⟩,.string ⟨#[]⟩] rfl)
                          have HP:=Aside0.mk (HP.out.set HG0.out HGL.out HGN.out 2 (.int .i64 1))
                          have HB:=Aside0.mk (strR_set HB.out HG0.out (by decide) 2 (.int .i64 1))
                          clear HG0 hs_ hf_
                          refine hK.out _ _ trivial (fun hHeld=>?_)
                          clear hK K
                          exact norm_ (by (simp only [putAll,Act.put,sA,sB,sC];done)) (hJ2_5_7_11 (adB_,cB_) _ ⟨HP.out,HG.out,HB.out⟩)
                       ·skip
                        rintro ⟨adA_,cA_⟩ w0_2_7_ ⟨hP_,hG_,hHA_⟩
                        have HP:Aside0 (PaS w gd raw (rollU raw (rollU raw u3)) v5 out w0_2_7_):=⟨hP_⟩
                        have HG:Aside0 (w0_2_7_.heap[g]? = some (.cells #[.int .i64 (1 + (i:Int) * 2 + a),.int .i64 site,.int .i64 0,.int .i64 (1 + b),.int .i64 0,.string ⟨#[]⟩,.string ⟨#[]⟩,.string ⟨#[]⟩] 128 (0,0))):=⟨hG_⟩
                        have HA:Aside0 (Kd.R Kd.string 9 w0_2_7_ w.heap.size (fun _=>True) (.slice (some adA_) 2 cA_) ([⟨#[120]⟩,⟨#[121]⟩]:List ByteArray)):=⟨hHA_⟩
                        clear hP_ hG_ hHA_
                        have hHeld:True:=trivial
                        refine norm_ (a':=?_) ?_ ?_
                        rotate_left
                        ·simp only [putAll,Act.put,sA,sB,sC]
                         rfl
                        refine three_ (i:=4) (j:=5) (k:=11) (Ni:=some 36) (Nj:=some 37) (Nk:=none) (bm 1247 16) (bm 1263 16) (bm 3279 16) rfl rfl rfl rfl rfl rfl (by kernel_rfl) (by decide) (by decide) (by decide) (fun K hK=>?_) (fun K hK=>?_) (fun K hK=>?_)
                        ·skip
                         obtain ⟨ad',e_,hx⟩:=Kd.at_string (Kd.R_reads' HA.out).2.2 d HBd.out.1 (by have:=HBd.out.2;simp only [List.length_cons,List.length_nil];omega)
                         cases e_
                         replace hx:_ = some (Value.string (xyS d)):=hx
                         refine value_ (w1:=?_) (v:=?_) (by rfl) rfl ?_ ?_
                         rotate_left 2
                         ·go_simp
                          constructor
                          ·rfl
                          ·rfl
                         clear hx
                         refine hK.out _ _ trivial (fun hHeld=>?_)
                         clear hK K
                         refine norm_ (a':=?_) ?_ ?_
                         rotate_left
                         ·show Act.put _ (some 36) _ = _
                          simp only [Act.put,sA,sB,sC,i64_w,i32_w]
                          rfl
                         exact norm_ (by (simp only [putAll,Act.put,sA,sB,sC];done)) (hJ0_2_4_7 (adA_,cA_) _ ⟨HP.out,HG.out⟩)
                        ·skip
                         refine Kd.R_lit_step Kd.string (w0:=w) w.heap.size 9 (by rfl) (N:=37) rfl (xs:=([⟨#[]⟩,⟨#[49]⟩,⟨#[50]⟩]:List ByteArray)) (inner:=[.string ⟨#[]⟩,.string ⟨#[49]⟩,.string ⟨#[50]⟩]) (ok:=fun _=>True) (okp:=fun _=>True) ?hr ?hp (fun _ hk=>hk) trivial HP.out.bel HP.out.size (by simp) ?_
                         case hr=>(go_simp;done)
                         case hp=>exact Reps.one rfl (Reps.one rfl (Reps.one rfl (Reps.none _ _)))
                         intro v_ w_ hR hB hg hn
                         obtain ⟨adB_,cB_,e_⟩:=strR_ad hR (by decide)
                         subst e_
                         have HB:Aside0 (Kd.R Kd.string 9 w_ w.heap.size (fun _=>True) (.slice (some adB_) 3 cB_) ([⟨#[]⟩,⟨#[49]⟩,⟨#[50]⟩]:List ByteArray)):=⟨hR⟩
                         have hbl:=grown_below hg
                         have HG:=Aside0.mk ((hbl.block g (blk_lt HG.out)).trans HG.out)
                         have HP:=Aside0.mk (HP.out.below hbl)
                         have HA:=Aside0.mk (Kd.R_below HA.out hbl)
                         clear hR hB hg hn hbl
                         refine hK.out _ _ trivial (fun hHeld=>?_)
                         clear hK K
                         refine norm_ (a':=?_) ?_ ?_
                         rotate_left
                         ·show Act.put _ (some 37) _ = _
                          simp only [Act.put,sA,sB,sC,i64_w,i32_w]
                          rfl
                         refine pure_ (i:=8) (N:=some 40) (v:=?_) (a':=?_) (bm 1519 16) rfl rfl (by kernel_rfl) (fun _ _ _ h=>h) (Or.inl ⟨by rfl,?_⟩) ?_ ?_
                         rotate_left
                         ·intro w'
                          go_simp
                          with_reducible rfl
                         rotate_left
                         ·simp only [Act.put,sA,sB,sC,i64_w,i32_w]
                          rfl
                         exact norm_ (by (simp only [putAll,Act.put,sA,sB,sC];rfl)) (hJ0_2_5_7 (adA_,cA_,adB_,cB_) _ ⟨HP.out,HG.out,HA.out,HB.out⟩)
                        ·skip
                         have hs_:=(blk_cell HG.out 2).trans rfl
                         have hf_:=blk_frozen HG.out 2
                         refine skip_ (w1:=?_) (by rfl) rfl ?_ ?_
                         rotate_left
                         ·go_simp
                          rfl
                         have HG0:=HG
                         have HG:=Aside0.mk (blk_put HG.out 2 (.int .i64 1) #[.int .i64 (1 + (i:Int) * 2 + a),.int .i64 site,.int .i64 1,.int .i64 (1 + b),.int .i64 0,.string ⟨#[]⟩,.string ⟨#[]⟩,.string ⟨#[]⟩] rfl)
                         have HP:=Aside0.mk (HP.out.set HG0.out HGL.out HGN.out 2 (.int .i64 1))
                         have HA:=Aside0.mk (strR_set HA.out HG0.out (by decide) 2 (.int .i64 1))
                         clear HG0 hs_ hf_
                         refine hK.out _ _ trivial (fun hHeld=>?_)
                         clear hK K
                         exact norm_ (by (simp only [putAll,Act.put,sA,sB,sC];done)) (hJ0_2_7_11 (adA_,cA_) _ ⟨HP.out,HG.out,HA.out⟩)
                      ·skip
                       rintro ⟨adA_,cA_,adB_,cB_⟩ w0_2_5_ ⟨hP_,hG_,hHA_,hHB_⟩
                       have HP:Aside0 (PaS w gd raw (rollU raw u3) v5 out w0_2_5_):=⟨hP_⟩
                       have HG:Aside0 (w0_2_5_.heap[g]? = some (.cells #[.int .i64 (1 + (i:Int) * 2 + a),.int .i64 site,.int .i64 0,.int .i64 (1 + b),.int .i64 0,.string ⟨#[]⟩,.string ⟨#[]⟩,.string ⟨#[]⟩] 128 (0,0))):=⟨hG_⟩
                       have HA:Aside0 (Kd.R Kd.string 9 w0_2_5_ w.heap.size (fun _=>True) (.slice (some adA_) 2 cA_) ([⟨#[120]⟩,⟨#[121]⟩]:List ByteArray)):=⟨hHA_⟩
                       have HB:Aside0 (Kd.R Kd.string 9 w0_2_5_ w.heap.size (fun _=>True) (.slice (some adB_) 3 cB_) ([⟨#[]⟩,⟨#[49]⟩,⟨#[50]⟩]:List ByteArray)):=⟨hHB_⟩
                       clear hP_ hG_ hHA_ hHB_
                       have hHeld:True:=trivial
                       refine norm_ (a':=?_) ?_ ?_
                       rotate_left
                       ·simp only [putAll,Act.put,sA,sB,sC]
                        rfl
                       refine two_ (i:=4) (j:=7) (Ni:=some 36) (Nj:=some 39) (bm 1151 16) (bm 1263 16) rfl rfl rfl rfl (by kernel_rfl) (by decide) (by decide) (fun K hK=>?_) (fun K hK=>?_)
                       ·skip
                        obtain ⟨ad',e_,hx⟩:=Kd.at_string (Kd.R_reads' HA.out).2.2 d HBd.out.1 (by have:=HBd.out.2;simp only [List.length_cons,List.length_nil];omega)
                        cases e_
                        replace hx:_ = some (Value.string (xyS d)):=hx
                        refine value_ (w1:=?_) (v:=?_) (by rfl) rfl ?_ ?_
                        rotate_left 2
                        ·go_simp
                         constructor
                         ·rfl
                         ·rfl
                        clear hx
                        refine hK.out _ _ trivial (fun hHeld=>?_)
                        clear hK K
                        refine norm_ (a':=?_) ?_ ?_
                        rotate_left
                        ·show Act.put _ (some 36) _ = _
                         simp only [Act.put,sA,sB,sC,i64_w,i32_w]
                         rfl
                        exact norm_ (by (simp only [putAll,Act.put,sA,sB,sC];done)) (hJ0_2_4_5 (adA_,cA_,adB_,cB_) _ ⟨HP.out,HG.out,HB.out⟩)
                       ·skip
                        refine goes_ Try.func40 (by kernel_rfl) rfl #[.pointer (some ⟨gd,0,none⟩),.int .i64 3] (by rfl) rfl rfl (by simp only [List.map_toArray,List.map_cons,List.map_nil];rfl) ?_
                        with_reducible refine (HP.out.roll_calls HUe.out HRe.out).mono ?_
                        rintro e w_ ⟨rfl,hP,hfr,hsz⟩
                        refine ⟨_,rfl,?_⟩
                        have HG:=Aside0.mk ((hfr g _ 128 (by decide) HG.out).trans HG.out)
                        have HA:=Aside0.mk (strR_move HA.out (fun k cells hc=>hfr k cells 9 (by decide) hc))
                        have HB:=Aside0.mk (strR_move HB.out (fun k cells hc=>hfr k cells 9 (by decide) hc))
                        have HP:=Aside0.mk hP
                        clear hP hfr hsz
                        refine hK.out _ _ trivial (fun hHeld=>?_)
                        clear hK K
                        refine norm_ (a':=?_) ?_ ?_
                        rotate_left
                        ·show Act.put _ (some 39) _ = _
                         simp only [Act.put,sA,sB,sC,i64_w,i32_w]
                         rfl
                        refine pure_ (i:=8) (N:=some 40) (v:=?_) (a':=?_) (bm 1519 16) rfl rfl (by kernel_rfl) (fun _ _ _ h=>h) (Or.inl ⟨by rfl,?_⟩) ?_ ?_
                        rotate_left
                        ·intro w'
                         go_simp
                         with_reducible rfl
                        rotate_left
                        ·simp only [Act.put,sA,sB,sC,i64_w,i32_w]
                         rfl
                        exact norm_ (by (simp only [putAll,Act.put,sA,sB,sC];done)) (hJ0_2_5_7 (adA_,cA_,adB_,cB_) _ ⟨HP.out,HG.out,HA.out,HB.out⟩)
                     ·skip
                      rintro ⟨adA_,cA_⟩ w0_2_4_ ⟨hP_,hG_⟩
                      have HP:Aside0 (PaS w gd raw (rollU raw u3) v5 out w0_2_4_):=⟨hP_⟩
                      have HG:Aside0 (w0_2_4_.heap[g]? = some (.cells #[.int .i64 (1 + (i:Int) * 2 + a),.int .i64 site,.int .i64 0,.int .i64 (1 + b),.int .i64 0,.string ⟨#[]⟩,.string ⟨#[]⟩,.string ⟨#[]⟩] 128 (0,0))):=⟨hG_⟩
                      clear hP_ hG_
                      have hHeld:True:=trivial
                      refine norm_ (a':=?_) ?_ ?_
                      rotate_left
                      ·simp only [putAll,Act.put,sA,sB,sC]
                       rfl
                      refine two_ (i:=5) (j:=7) (Ni:=some 37) (Nj:=some 39) (bm 1151 16) (bm 1247 16) rfl rfl rfl rfl (by kernel_rfl) (by decide) (by decide) (fun K hK=>?_) (fun K hK=>?_)
                      ·skip
                       refine Kd.R_lit_step Kd.string (w0:=w) w.heap.size 9 (by rfl) (N:=37) rfl (xs:=([⟨#[]⟩,⟨#[49]⟩,⟨#[50]⟩]:List ByteArray)) (inner:=[.string ⟨#[]⟩,.string ⟨#[49]⟩,.string ⟨#[50]⟩]) (ok:=fun _=>True) (okp:=fun _=>True) ?hr ?hp (fun _ hk=>hk) trivial HP.out.bel HP.out.size (by simp) ?_
                       case hr=>(go_simp;done)
                       case hp=>exact Reps.one rfl (Reps.one rfl (Reps.one rfl (Reps.none _ _)))
                       intro v_ w_ hR hB hg hn
                       obtain ⟨adB_,cB_,e_⟩:=strR_ad hR (by decide)
                       subst e_
                       have HB:Aside0 (Kd.R Kd.string 9 w_ w.heap.size (fun _=>True) (.slice (some adB_) 3 cB_) ([⟨#[]⟩,⟨#[49]⟩,⟨#[50]⟩]:List ByteArray)):=⟨hR⟩
                       have hbl:=grown_below hg
                       have HG:=Aside0.mk ((hbl.block g (blk_lt HG.out)).trans HG.out)
                       have HP:=Aside0.mk (HP.out.below hbl)
                       clear hR hB hg hn hbl
                       refine hK.out _ _ trivial (fun hHeld=>?_)
                       clear hK K
                       refine norm_ (a':=?_) ?_ ?_
                       rotate_left
                       ·show Act.put _ (some 37) _ = _
                        simp only [Act.put,sA,sB,sC,i64_w,i32_w]
                        rfl
                       exact norm_ (by (simp only [putAll,Act.put,sA,sB,sC];rfl)) (hJ0_2_4_5 (adA_,cA_,adB_,cB_) _ ⟨HP.out,HG.out,HB.out⟩)
                      ·skip
                       refine goes_ Try.func40 (by kernel_rfl) rfl #[.pointer (some ⟨gd,0,none⟩),.int .i64 3] (by rfl) rfl rfl (by simp only [List.map_toArray,List.map_cons,List.map_nil];rfl) ?_
                       with_reducible refine (HP.out.roll_calls HUe.out HRe.out).mono ?_
                       rintro e w_ ⟨rfl,hP,hfr,hsz⟩
                       refine ⟨_,rfl,?_⟩
                       have HG:=Aside0.mk ((hfr g _ 128 (by decide) HG.out).trans HG.out)
                       have HP:=Aside0.mk hP
                       clear hP hfr hsz
                       refine hK.out _ _ trivial (fun hHeld=>?_)
                       clear hK K
                       refine norm_ (a':=?_) ?_ ?_
                       rotate_left
                       ·show Act.put _ (some 39) _ = _
                        simp only [Act.put,sA,sB,sC,i64_w,i32_w]
                        rfl
                       exact norm_ (by (simp only [putAll,Act.put,sA,sB,sC];done)) (hJ0_2_4_7 (adA_,cA_) _ ⟨HP.out,HG.out⟩)
                    ·skip
                     rintro ⟨adB_,cB_⟩ w2_5_7_11_ ⟨hP_,hG_,hHB_⟩
                     have HP:Aside0 (PaS w gd raw (rollU raw (rollU raw u3)) v5 out w2_5_7_11_):=⟨hP_⟩
                     have HG:Aside0 (w2_5_7_11_.heap[g]? = some (.cells #[.int .i64 (1 + (i:Int) * 2 + a),.int .i64 site,.int .i64 1,.int .i64 (1 + b),.int .i64 0,.string ⟨#[]⟩,.string ⟨#[]⟩,.string ⟨#[]⟩] 128 (0,0))):=⟨hG_⟩
                     have HB:Aside0 (Kd.R Kd.string 9 w2_5_7_11_ w.heap.size (fun _=>True) (.slice (some adB_) 3 cB_) ([⟨#[]⟩,⟨#[49]⟩,⟨#[50]⟩]:List ByteArray)):=⟨hHB_⟩
                     clear hP_ hG_ hHB_
                     have hHeld:True:=trivial
                     refine norm_ (a':=?_) ?_ ?_
                     rotate_left
                     ·simp only [putAll,Act.put,sA,sB,sC]
                      rfl
                     refine two_ (i:=0) (j:=9) (Ni:=some 32) (Nj:=some 41) (bm 3559 16) (bm 4070 16) rfl rfl rfl rfl (by kernel_rfl) (by decide) (by decide) (fun K hK=>?_) (fun K hK=>?_)
                     ·skip
                      refine Kd.R_lit_step Kd.string (w0:=w) w.heap.size 9 (by rfl) (N:=32) rfl (xs:=([⟨#[120]⟩,⟨#[121]⟩]:List ByteArray)) (inner:=[.string ⟨#[120]⟩,.string ⟨#[121]⟩]) (ok:=fun _=>True) (okp:=fun _=>True) ?hr ?hp (fun _ hk=>hk) trivial HP.out.bel HP.out.size (by simp) ?_
                      case hr=>(go_simp;done)
                      case hp=>exact Reps.one rfl (Reps.one rfl (Reps.none _ _))
                      intro v_ w_ hR hB hg hn
                      obtain ⟨adA_,cA_,e_⟩:=strR_ad hR (by decide)
                      subst e_
                      have HA:Aside0 (Kd.R Kd.string 9 w_ w.heap.size (fun _=>True) (.slice (some adA_) 2 cA_) ([⟨#[120]⟩,⟨#[121]⟩]:List ByteArray)):=⟨hR⟩
                      have hbl:=grown_below hg
                      have HG:=Aside0.mk ((hbl.block g (blk_lt HG.out)).trans HG.out)
                      have HP:=Aside0.mk (HP.out.below hbl)
                      have HB:=Aside0.mk (Kd.R_below HB.out hbl)
                      clear hR hB hg hn hbl
                      refine hK.out _ _ trivial (fun hHeld=>?_)
                      clear hK K
                      refine norm_ (a':=?_) ?_ ?_
                      rotate_left
                      ·show Act.put _ (some 32) _ = _
                       simp only [Act.put,sA,sB,sC,i64_w,i32_w]
                       rfl
                      refine pure_ (i:=3) (N:=some 35) (v:=?_) (a':=?_) (bm 3567 16) rfl rfl (by kernel_rfl) (fun _ _ _ h=>h) (Or.inl ⟨by rfl,?_⟩) ?_ ?_
                      rotate_left
                      ·intro w'
                       go_simp
                       with_reducible rfl
                      rotate_left
                      ·simp only [Act.put,sA,sB,sC,i64_w,i32_w]
                       rfl
                      exact norm_ (by (simp only [putAll,Act.put,sA,sB,sC];rfl)) (hJ0_2_5_7_11 (adA_,cA_,adB_,cB_) _ ⟨HP.out,HG.out,HA.out,HB.out⟩)
                     ·skip
                      obtain ⟨ad',e_,hx⟩:=Kd.at_string (Kd.R_reads' HB.out).2.2 e HBe.out.1 (by have:=HBe.out.2;simp only [List.length_cons,List.length_nil];omega)
                      cases e_
                      replace hx:_ = some (Value.string (noS e)):=hx
                      refine value_ (w1:=?_) (v:=?_) (by rfl) rfl ?_ ?_
                      rotate_left 2
                      ·go_simp
                       constructor
                       ·rfl
                       ·rfl
                      clear hx
                      refine hK.out _ _ trivial (fun hHeld=>?_)
                      clear hK K
                      refine norm_ (a':=?_) ?_ ?_
                      rotate_left
                      ·show Act.put _ (some 41) _ = _
                       simp only [Act.put,sA,sB,sC,i64_w,i32_w]
                       rfl
                      exact norm_ (by (simp only [putAll,Act.put,sA,sB,sC];done)) (hJ2_5_7_9_11 (adB_,cB_) _ ⟨HP.out,HG.out⟩)
                   ·skip
                    rintro ⟨adB_,cB_⟩ w2_5_7_9_ ⟨hP_,hG_⟩
                    have HP:Aside0 (PaS w gd raw (rollU raw (rollU raw u3)) v5 out w2_5_7_9_):=⟨hP_⟩
                    have HG:Aside0 (w2_5_7_9_.heap[g]? = some (.cells #[.int .i64 (1 + (i:Int) * 2 + a),.int .i64 site,.int .i64 0,.int .i64 (1 + b),.int .i64 0,.string ⟨#[]⟩,.string ⟨#[]⟩,.string ⟨#[]⟩] 128 (0,0))):=⟨hG_⟩
                    clear hP_ hG_
                    have hHeld:True:=trivial
                    refine norm_ (a':=?_) ?_ ?_
                    rotate_left
                    ·simp only [putAll,Act.put,sA,sB,sC]
                     rfl
                    refine two_ (i:=0) (j:=11) (Ni:=some 32) (Nj:=none) (bm 2023 16) (bm 4070 16) rfl rfl rfl rfl (by kernel_rfl) (by decide) (by decide) (fun K hK=>?_) (fun K hK=>?_)
                    ·skip
                     refine Kd.R_lit_step Kd.string (w0:=w) w.heap.size 9 (by rfl) (N:=32) rfl (xs:=([⟨#[120]⟩,⟨#[121]⟩]:List ByteArray)) (inner:=[.string ⟨#[120]⟩,.string ⟨#[121]⟩]) (ok:=fun _=>True) (okp:=fun _=>True) ?hr ?hp (fun _ hk=>hk) trivial HP.out.bel HP.out.size (by simp) ?_
                     case hr=>(go_simp;done)
                     case hp=>exact Reps.one rfl (Reps.one rfl (Reps.none _ _))
                     intro v_ w_ hR hB hg hn
                     obtain ⟨adA_,cA_,e_⟩:=strR_ad hR (by decide)
                     subst e_
                     have HA:Aside0 (Kd.R Kd.string 9 w_ w.heap.size (fun _=>True) (.slice (some adA_) 2 cA_) ([⟨#[120]⟩,⟨#[121]⟩]:List ByteArray)):=⟨hR⟩
                     have hbl:=grown_below hg
                     have HG:=Aside0.mk ((hbl.block g (blk_lt HG.out)).trans HG.out)
                     have HP:=Aside0.mk (HP.out.below hbl)
                     clear hR hB hg hn hbl
                     refine hK.out _ _ trivial (fun hHeld=>?_)
                     clear hK K
                     refine norm_ (a':=?_) ?_ ?_
                     rotate_left
                     ·show Act.put _ (some 32) _ = _
                      simp only [Act.put,sA,sB,sC,i64_w,i32_w]
                      rfl
                     refine pure_ (i:=3) (N:=some 35) (v:=?_) (a':=?_) (bm 2031 16) rfl rfl (by kernel_rfl) (fun _ _ _ h=>h) (Or.inl ⟨by rfl,?_⟩) ?_ ?_
                     rotate_left
                     ·intro w'
                      go_simp
                      with_reducible rfl
                     rotate_left
                     ·simp only [Act.put,sA,sB,sC,i64_w,i32_w]
                      rfl
                     exact norm_ (by (simp only [putAll,Act.put,sA,sB,sC];rfl)) (hJ0_2_5_7_9 (adA_,cA_,adB_,cB_) _ ⟨HP.out,HG.out,HA.out⟩)
                    ·skip
                     have hs_:=(blk_cell HG.out 2).trans rfl
                     have hf_:=blk_frozen HG.out 2
                     refine skip_ (w1:=?_) (by rfl) rfl ?_ ?_
                     rotate_left
                     ·go_simp
                      rfl
                     have HG0:=HG
                     have HG:=Aside0.mk (blk_put HG.out 2 (.int .i64 1) #[.int .i64 (1 + (i:Int) * 2 + a),.int .i64 site,.int .i64 1,.int .i64 (1 + b),.int .i64 0,.string ⟨#[]⟩,.string ⟨#[]⟩,.string ⟨#[]⟩] rfl)
                     have HP:=Aside0.mk (HP.out.set HG0.out HGL.out HGN.out 2 (.int .i64 1))
                     clear HG0 hs_ hf_
                     refine hK.out _ _ trivial (fun hHeld=>?_)
                     clear hK K
                     exact norm_ (by (simp only [putAll,Act.put,sA,sB,sC];done)) (hJ2_5_7_9_11 (adB_,cB_) _ ⟨HP.out,HG.out⟩)
                  ·skip
                   rintro ⟨adA_,cA_⟩ w0_2_7_11_ ⟨hP_,hG_,hHA_⟩
                   have HP:Aside0 (PaS w gd raw (rollU raw (rollU raw u3)) v5 out w0_2_7_11_):=⟨hP_⟩
                   have HG:Aside0 (w0_2_7_11_.heap[g]? = some (.cells #[.int .i64 (1 + (i:Int) * 2 + a),.int .i64 site,.int .i64 1,.int .i64 (1 + b),.int .i64 0,.string ⟨#[]⟩,.string ⟨#[]⟩,.string ⟨#[]⟩] 128 (0,0))):=⟨hG_⟩
                   have HA:Aside0 (Kd.R Kd.string 9 w0_2_7_11_ w.heap.size (fun _=>True) (.slice (some adA_) 2 cA_) ([⟨#[120]⟩,⟨#[121]⟩]:List ByteArray)):=⟨hHA_⟩
                   clear hP_ hG_ hHA_
                   have hHeld:True:=trivial
                   refine norm_ (a':=?_) ?_ ?_
                   rotate_left
                   ·simp only [putAll,Act.put,sA,sB,sC]
                    rfl
                   refine two_ (i:=4) (j:=5) (Ni:=some 36) (Nj:=some 37) (bm 3295 16) (bm 3311 16) rfl rfl rfl rfl (by kernel_rfl) (by decide) (by decide) (fun K hK=>?_) (fun K hK=>?_)
                   ·skip
                    obtain ⟨ad',e_,hx⟩:=Kd.at_string (Kd.R_reads' HA.out).2.2 d HBd.out.1 (by have:=HBd.out.2;simp only [List.length_cons,List.length_nil];omega)
                    cases e_
                    replace hx:_ = some (Value.string (xyS d)):=hx
                    refine value_ (w1:=?_) (v:=?_) (by rfl) rfl ?_ ?_
                    rotate_left 2
                    ·go_simp
                     constructor
                     ·rfl
                     ·rfl
                    clear hx
                    refine hK.out _ _ trivial (fun hHeld=>?_)
                    clear hK K
                    refine norm_ (a':=?_) ?_ ?_
                    rotate_left
                    ·show Act.put _ (some 36) _ = _
                     simp only [Act.put,sA,sB,sC,i64_w,i32_w]
                     rfl
                    refine pure_ (i:=12) (N:=some 43) (v:=?_) (a':=?_) (bm 7391 16) rfl rfl (by kernel_rfl) (fun _ _ _ h=>h) (Or.inl ⟨by rfl,?_⟩) ?_ ?_
                    rotate_left
                    ·intro w'
                     go_simp
                     with_reducible rfl
                    rotate_left
                    ·simp only [Act.put,sA,sB,sC,i64_w,i32_w]
                     rfl
                    exact norm_ (by (simp only [putAll,Act.put,sA,sB,sC];done)) (hJ0_2_4_7_11 (adA_,cA_) _ ⟨HP.out,HG.out⟩)
                   ·skip
                    refine Kd.R_lit_step Kd.string (w0:=w) w.heap.size 9 (by rfl) (N:=37) rfl (xs:=([⟨#[]⟩,⟨#[49]⟩,⟨#[50]⟩]:List ByteArray)) (inner:=[.string ⟨#[]⟩,.string ⟨#[49]⟩,.string ⟨#[50]⟩]) (ok:=fun _=>True) (okp:=fun _=>True) ?hr ?hp (fun _ hk=>hk) trivial HP.out.bel HP.out.size (by simp) ?_
                    case hr=>(go_simp;done)
                    case hp=>exact Reps.one rfl (Reps.one rfl (Reps.one rfl (Reps.none _ _)))
                    intro v_ w_ hR hB hg hn
                    obtain ⟨adB_,cB_,e_⟩:=strR_ad hR (by decide)
                    subst e_
                    have HB:Aside0 (Kd.R Kd.string 9 w_ w.heap.size (fun _=>True) (.slice (some adB_) 3 cB_) ([⟨#[]⟩,⟨#[49]⟩,⟨#[50]⟩]:List ByteArray)):=⟨hR⟩
                    have hbl:=grown_below hg
                    have HG:=Aside0.mk ((hbl.block g (blk_lt HG.out)).trans HG.out)
                    have HP:=Aside0.mk (HP.out.below hbl)
                    have HA:=Aside0.mk (Kd.R_below HA.out hbl)
                    clear hR hB hg hn hbl
                    refine hK.out _ _ trivial (fun hHeld=>?_)
                    clear hK K
                    refine norm_ (a':=?_) ?_ ?_
                    rotate_left
                    ·show Act.put _ (some 37) _ = _
                     simp only [Act.put,sA,sB,sC,i64_w,i32_w]
                     rfl
                    refine pure_ (i:=8) (N:=some 40) (v:=?_) (a':=?_) (bm 3567 16) rfl rfl (by kernel_rfl) (fun _ _ _ h=>h) (Or.inl ⟨by rfl,?_⟩) ?_ ?_
                    rotate_left
                    ·intro w'
                     go_simp
                     with_reducible rfl
                    rotate_left
                    ·simp only [Act.put,sA,sB,sC,i64_w,i32_w]
                     rfl
                    exact norm_ (by (simp only [putAll,Act.put,sA,sB,sC];rfl)) (hJ0_2_5_7_11 (adA_,cA_,adB_,cB_) _ ⟨HP.out,HG.out,HA.out,HB.out⟩)
                 ·skip
                  rintro ⟨adA_,cA_,adB_,cB_⟩ w0_2_5_7_ ⟨hP_,hG_,hHA_,hHB_⟩
                  have HP:Aside0 (PaS w gd raw (rollU raw (rollU raw u3)) v5 out w0_2_5_7_):=⟨hP_⟩
                  have HG:Aside0 (w0_2_5_7_.heap[g]? = some (.cells #[.int .i64 (1 + (i:Int) * 2 + a),.int .i64 site,.int .i64 0,.int .i64 (1 + b),.int .i64 0,.string ⟨#[]⟩,.string ⟨#[]⟩,.string ⟨#[]⟩] 128 (0,0))):=⟨hG_⟩
                  have HA:Aside0 (Kd.R Kd.string 9 w0_2_5_7_ w.heap.size (fun _=>True) (.slice (some adA_) 2 cA_) ([⟨#[120]⟩,⟨#[121]⟩]:List ByteArray)):=⟨hHA_⟩
                  have HB:Aside0 (Kd.R Kd.string 9 w0_2_5_7_ w.heap.size (fun _=>True) (.slice (some adB_) 3 cB_) ([⟨#[]⟩,⟨#[49]⟩,⟨#[50]⟩]:List ByteArray)):=⟨hHB_⟩
                  clear hP_ hG_ hHA_ hHB_
                  have hHeld:True:=trivial
                  refine norm_ (a':=?_) ?_ ?_
                  rotate_left
                  ·simp only [putAll,Act.put,sA,sB,sC]
                   rfl
                  refine three_ (i:=4) (j:=9) (k:=11) (Ni:=some 36) (Nj:=some 41) (Nk:=none) (bm 1535 16) (bm 2031 16) (bm 3567 16) rfl rfl rfl rfl rfl rfl (by kernel_rfl) (by decide) (by decide) (by decide) (fun K hK=>?_) (fun K hK=>?_) (fun K hK=>?_)
                  ·skip
                   obtain ⟨ad',e_,hx⟩:=Kd.at_string (Kd.R_reads' HA.out).2.2 d HBd.out.1 (by have:=HBd.out.2;simp only [List.length_cons,List.length_nil];omega)
                   cases e_
                   replace hx:_ = some (Value.string (xyS d)):=hx
                   refine value_ (w1:=?_) (v:=?_) (by rfl) rfl ?_ ?_
                   rotate_left 2
                   ·go_simp
                    constructor
                    ·rfl
                    ·rfl
                   clear hx
                   refine hK.out _ _ trivial (fun hHeld=>?_)
                   clear hK K
                   refine norm_ (a':=?_) ?_ ?_
                   rotate_left
                   ·show Act.put _ (some 36) _ = _
                    simp only [Act.put,sA,sB,sC,i64_w,i32_w]
                    rfl
                   exact norm_ (by (simp only [putAll,Act.put,sA,sB,sC];done)) (hJ0_2_4_5_7 (adA_,cA_,adB_,cB_) _ ⟨HP.out,HG.out,HB.out⟩)
                  ·skip
                   obtain ⟨ad',e_,hx⟩:=Kd.at_string (Kd.R_reads' HB.out).2.2 e HBe.out.1 (by have:=HBe.out.2;simp only [List.length_cons,List.length_nil];omega)
                   cases e_
                   replace hx:_ = some (Value.string (noS e)):=hx
                   refine value_ (w1:=?_) (v:=?_) (by rfl) rfl ?_ ?_
                   rotate_left 2
                   ·go_simp
                    constructor
                    ·rfl
                    ·rfl
                   clear hx
                   refine hK.out _ _ trivial (fun hHeld=>?_)
                   clear hK K
                   refine norm_ (a':=?_) ?_ ?_
                   rotate_left
                   ·show Act.put _ (some 41) _ = _
                    simp only [Act.put,sA,sB,sC,i64_w,i32_w]
                    rfl
                   exact norm_ (by (simp only [putAll,Act.put,sA,sB,sC];done)) (hJ0_2_5_7_9 (adA_,cA_,adB_,cB_) _ ⟨HP.out,HG.out,HA.out⟩)
                  ·skip
                   have hs_:=(blk_cell HG.out 2).trans rfl
                   have hf_:=blk_frozen HG.out 2
                   refine skip_ (w1:=?_) (by rfl) rfl ?_ ?_
                   rotate_left
                   ·go_simp
                    rfl
                   have HG0:=HG
                   have HG:=Aside0.mk (blk_put HG.out 2 (.int .i64 1) #[.int .i64 (1 + (i:Int) * 2 + a),.int .i64 site,.int .i64 1,.int .i64 (1 + b),.int .i64 0,.string ⟨#[]⟩,.string ⟨#[]⟩,.string ⟨#[]⟩] rfl)
                   have HP:=Aside0.mk (HP.out.set HG0.out HGL.out HGN.out 2 (.int .i64 1))
                   have HA:=Aside0.mk (strR_set HA.out HG0.out (by decide) 2 (.int .i64 1))
                   have HB:=Aside0.mk (strR_set HB.out HG0.out (by decide) 2 (.int .i64 1))
                   clear HG0 hs_ hf_
                   refine hK.out _ _ trivial (fun hHeld=>?_)
                   clear hK K
                   exact norm_ (by (simp only [putAll,Act.put,sA,sB,sC];done)) (hJ0_2_5_7_11 (adA_,cA_,adB_,cB_) _ ⟨HP.out,HG.out,HA.out,HB.out⟩)
                ·skip
                 rintro ⟨adA_,cA_⟩ w0_2_4_7_ ⟨hP_,hG_⟩
                 have HP:Aside0 (PaS w gd raw (rollU raw (rollU raw u3)) v5 out w0_2_4_7_):=⟨hP_⟩
                 have HG:Aside0 (w0_2_4_7_.heap[g]? = some (.cells #[.int .i64 (1 + (i:Int) * 2 + a),.int .i64 site,.int .i64 0,.int .i64 (1 + b),.int .i64 0,.string ⟨#[]⟩,.string ⟨#[]⟩,.string ⟨#[]⟩] 128 (0,0))):=⟨hG_⟩
                 clear hP_ hG_
                 have hHeld:True:=trivial
                 refine norm_ (a':=?_) ?_ ?_
                 rotate_left
                 ·simp only [putAll,Act.put,sA,sB,sC]
                  rfl
                 refine two_ (i:=5) (j:=11) (Ni:=some 37) (Nj:=none) (bm 1279 16) (bm 3295 16) rfl rfl rfl rfl (by kernel_rfl) (by decide) (by decide) (fun K hK=>?_) (fun K hK=>?_)
                 ·skip
                  refine Kd.R_lit_step Kd.string (w0:=w) w.heap.size 9 (by rfl) (N:=37) rfl (xs:=([⟨#[]⟩,⟨#[49]⟩,⟨#[50]⟩]:List ByteArray)) (inner:=[.string ⟨#[]⟩,.string ⟨#[49]⟩,.string ⟨#[50]⟩]) (ok:=fun _=>True) (okp:=fun _=>True) ?hr ?hp (fun _ hk=>hk) trivial HP.out.bel HP.out.size (by simp) ?_
                  case hr=>(go_simp;done)
                  case hp=>exact Reps.one rfl (Reps.one rfl (Reps.one rfl (Reps.none _ _)))
                  intro v_ w_ hR hB hg hn
                  obtain ⟨adB_,cB_,e_⟩:=strR_ad hR (by decide)
                  subst e_
                  have HB:Aside0 (Kd.R Kd.string 9 w_ w.heap.size (fun _=>True) (.slice (some adB_) 3 cB_) ([⟨#[]⟩,⟨#[49]⟩,⟨#[50]⟩]:List ByteArray)):=⟨hR⟩
                  have hbl:=grown_below hg
                  have HG:=Aside0.mk ((hbl.block g (blk_lt HG.out)).trans HG.out)
                  have HP:=Aside0.mk (HP.out.below hbl)
                  clear hR hB hg hn hbl
                  refine hK.out _ _ trivial (fun hHeld=>?_)
                  clear hK K
                  refine norm_ (a':=?_) ?_ ?_
                  rotate_left
                  ·show Act.put _ (some 37) _ = _
                   simp only [Act.put,sA,sB,sC,i64_w,i32_w]
                   rfl
                  refine pure_ (i:=8) (N:=some 40) (v:=?_) (a':=?_) (bm 1535 16) rfl rfl (by kernel_rfl) (fun _ _ _ h=>h) (Or.inl ⟨by rfl,?_⟩) ?_ ?_
                  rotate_left
                  ·intro w'
                   go_simp
                   with_reducible rfl
                  rotate_left
                  ·simp only [Act.put,sA,sB,sC,i64_w,i32_w]
                   rfl
                  exact norm_ (by (simp only [putAll,Act.put,sA,sB,sC];rfl)) (hJ0_2_4_5_7 (adA_,cA_,adB_,cB_) _ ⟨HP.out,HG.out,HB.out⟩)
                 ·skip
                  have hs_:=(blk_cell HG.out 2).trans rfl
                  have hf_:=blk_frozen HG.out 2
                  refine skip_ (w1:=?_) (by rfl) rfl ?_ ?_
                  rotate_left
                  ·go_simp
                   rfl
                  have HG0:=HG
                  have HG:=Aside0.mk (blk_put HG.out 2 (.int .i64 1) #[.int .i64 (1 + (i:Int) * 2 + a),.int .i64 site,.int .i64 1,.int .i64 (1 + b),.int .i64 0,.string ⟨#[]⟩,.string ⟨#[]⟩,.string ⟨#[]⟩] rfl)
                  have HP:=Aside0.mk (HP.out.set HG0.out HGL.out HGN.out 2 (.int .i64 1))
                  clear HG0 hs_ hf_
                  refine hK.out _ _ trivial (fun hHeld=>?_)
                  clear hK K
                  refine pure_ (i:=12) (N:=some 43) (v:=?_) (a':=?_) (bm 7391 16) rfl rfl (by kernel_rfl) (fun _ _ _ h=>h) (Or.inl ⟨by rfl,?_⟩) ?_ ?_
                  rotate_left
                  ·intro w'
                   go_simp
                   with_reducible rfl
                  rotate_left
                  ·simp only [Act.put,sA,sB,sC,i64_w,i32_w]
                   rfl
                  exact norm_ (by (simp only [putAll,Act.put,sA,sB,sC];done)) (hJ0_2_4_7_11 (adA_,cA_) _ ⟨HP.out,HG.out⟩)
               ·skip
                rintro ⟨adA_,cA_,adB_,cB_⟩ w0_2_4_5_ ⟨hP_,hG_,hHB_⟩
                have HP:Aside0 (PaS w gd raw (rollU raw u3) v5 out w0_2_4_5_):=⟨hP_⟩
                have HG:Aside0 (w0_2_4_5_.heap[g]? = some (.cells #[.int .i64 (1 + (i:Int) * 2 + a),.int .i64 site,.int .i64 0,.int .i64 (1 + b),.int .i64 0,.string ⟨#[]⟩,.string ⟨#[]⟩,.string ⟨#[]⟩] 128 (0,0))):=⟨hG_⟩
                have HB:Aside0 (Kd.R Kd.string 9 w0_2_4_5_ w.heap.size (fun _=>True) (.slice (some adB_) 3 cB_) ([⟨#[]⟩,⟨#[49]⟩,⟨#[50]⟩]:List ByteArray)):=⟨hHB_⟩
                clear hP_ hG_ hHB_
                have hHeld:True:=trivial
                refine norm_ (a':=?_) ?_ ?_
                rotate_left
                ·simp only [putAll,Act.put,sA,sB,sC]
                 rfl
                refine one_ (i:=7) (N:=some 39) (bm 1279 16) rfl rfl (by kernel_rfl) (by decide) (fun K hK=>?_)
                refine goes_ Try.func40 (by kernel_rfl) rfl #[.pointer (some ⟨gd,0,none⟩),.int .i64 3] (by rfl) rfl rfl (by simp only [List.map_toArray,List.map_cons,List.map_nil];rfl) ?_
                with_reducible refine (HP.out.roll_calls HUe.out HRe.out).mono ?_
                rintro e w_ ⟨rfl,hP,hfr,hsz⟩
                refine ⟨_,rfl,?_⟩
                have HG:=Aside0.mk ((hfr g _ 128 (by decide) HG.out).trans HG.out)
                have HB:=Aside0.mk (strR_move HB.out (fun k cells hc=>hfr k cells 9 (by decide) hc))
                have HP:=Aside0.mk hP
                clear hP hfr hsz
                refine hK.out _ _ trivial (fun hHeld=>?_)
                clear hK K
                refine norm_ (a':=?_) ?_ ?_
                rotate_left
                ·show Act.put _ (some 39) _ = _
                 simp only [Act.put,sA,sB,sC,i64_w,i32_w]
                 rfl
                refine pure_ (i:=8) (N:=some 40) (v:=?_) (a':=?_) (bm 1535 16) rfl rfl (by kernel_rfl) (fun _ _ _ h=>h) (Or.inl ⟨by rfl,?_⟩) ?_ ?_
                rotate_left
                ·intro w'
                 go_simp
                 with_reducible rfl
                rotate_left
                ·simp only [Act.put,sA,sB,sC,i64_w,i32_w]
                 rfl
                exact norm_ (by (simp only [putAll,Act.put,sA,sB,sC];done)) (hJ0_2_4_5_7 (adA_,cA_,adB_,cB_) _ ⟨HP.out,HG.out,HB.out⟩)
              ·skip
               rintro ⟨adB_,cB_⟩ w2_5_7_9_11_ ⟨hP_,hG_⟩
               have HP:Aside0 (PaS w gd raw (rollU raw (rollU raw u3)) v5 out w2_5_7_9_11_):=⟨hP_⟩
               have HG:Aside0 (w2_5_7_9_11_.heap[g]? = some (.cells #[.int .i64 (1 + (i:Int) * 2 + a),.int .i64 site,.int .i64 1,.int .i64 (1 + b),.int .i64 0,.string ⟨#[]⟩,.string ⟨#[]⟩,.string ⟨#[]⟩] 128 (0,0))):=⟨hG_⟩
               clear hP_ hG_
               have hHeld:True:=trivial
               refine norm_ (a':=?_) ?_ ?_
               rotate_left
               ·simp only [putAll,Act.put,sA,sB,sC]
                rfl
               refine one_ (i:=0) (N:=some 32) (bm 4071 16) rfl rfl (by kernel_rfl) (by decide) (fun K hK=>?_)
               refine Kd.R_lit_step Kd.string (w0:=w) w.heap.size 9 (by rfl) (N:=32) rfl (xs:=([⟨#[120]⟩,⟨#[121]⟩]:List ByteArray)) (inner:=[.string ⟨#[120]⟩,.string ⟨#[121]⟩]) (ok:=fun _=>True) (okp:=fun _=>True) ?hr ?hp (fun _ hk=>hk) trivial HP.out.bel HP.out.size (by simp) ?_
               case hr=>(go_simp;done)
               case hp=>exact Reps.one rfl (Reps.one rfl (Reps.none _ _))
               intro v_ w_ hR hB hg hn
               obtain ⟨adA_,cA_,e_⟩:=strR_ad hR (by decide)
               subst e_
               have HA:Aside0 (Kd.R Kd.string 9 w_ w.heap.size (fun _=>True) (.slice (some adA_) 2 cA_) ([⟨#[120]⟩,⟨#[121]⟩]:List ByteArray)):=⟨hR⟩
               have hbl:=grown_below hg
               have HG:=Aside0.mk ((hbl.block g (blk_lt HG.out)).trans HG.out)
               have HP:=Aside0.mk (HP.out.below hbl)
               clear hR hB hg hn hbl
               refine hK.out _ _ trivial (fun hHeld=>?_)
               clear hK K
               refine norm_ (a':=?_) ?_ ?_
               rotate_left
               ·show Act.put _ (some 32) _ = _
                simp only [Act.put,sA,sB,sC,i64_w,i32_w]
                rfl
               refine pure_ (i:=3) (N:=some 35) (v:=?_) (a':=?_) (bm 4079 16) rfl rfl (by kernel_rfl) (fun _ _ _ h=>h) (Or.inl ⟨by rfl,?_⟩) ?_ ?_
               rotate_left
               ·intro w'
                go_simp
                with_reducible rfl
               rotate_left
               ·simp only [Act.put,sA,sB,sC,i64_w,i32_w]
                rfl
               exact norm_ (by (simp only [putAll,Act.put,sA,sB,sC];rfl)) (hJ0_2_5_7_9_11 (adA_,cA_,adB_,cB_) _ ⟨HP.out,HG.out,HA.out⟩)
             ·skip
              rintro ⟨adA_,cA_,adB_,cB_⟩ w0_2_5_7_11_ ⟨hP_,hG_,hHA_,hHB_⟩
              have HP:Aside0 (PaS w gd raw (rollU raw (rollU raw u3)) v5 out w0_2_5_7_11_):=⟨hP_⟩
              have HG:Aside0 (w0_2_5_7_11_.heap[g]? = some (.cells #[.int .i64 (1 + (i:Int) * 2 + a),.int .i64 site,.int .i64 1,.int .i64 (1 + b),.int .i64 0,.string ⟨#[]⟩,.string ⟨#[]⟩,.string ⟨#[]⟩] 128 (0,0))):=⟨hG_⟩
              have HA:Aside0 (Kd.R Kd.string 9 w0_2_5_7_11_ w.heap.size (fun _=>True) (.slice (some adA_) 2 cA_) ([⟨#[120]⟩,⟨#[121]⟩]:List ByteArray)):=⟨hHA_⟩
              have HB:Aside0 (Kd.R Kd.string 9 w0_2_5_7_11_ w.heap.size (fun _=>True) (.slice (some adB_) 3 cB_) ([⟨#[]⟩,⟨#[49]⟩,⟨#[50]⟩]:List ByteArray)):=⟨hHB_⟩
              clear hP_ hG_ hHA_ hHB_
              have hHeld:True:=trivial
              refine norm_ (a':=?_) ?_ ?_
              rotate_left
              ·simp only [putAll,Act.put,sA,sB,sC]
               rfl
              refine two_ (i:=4) (j:=9) (Ni:=some 36) (Nj:=some 41) (bm 3583 16) (bm 4079 16) rfl rfl rfl rfl (by kernel_rfl) (by decide) (by decide) (fun K hK=>?_) (fun K hK=>?_)
              ·skip
               obtain ⟨ad',e_,hx⟩:=Kd.at_string (Kd.R_reads' HA.out).2.2 d HBd.out.1 (by have:=HBd.out.2;simp only [List.length_cons,List.length_nil];omega)
               cases e_
               replace hx:_ = some (Value.string (xyS d)):=hx
               refine value_ (w1:=?_) (v:=?_) (by rfl) rfl ?_ ?_
               rotate_left 2
               ·go_simp
                constructor
                ·rfl
                ·rfl
               clear hx
               refine hK.out _ _ trivial (fun hHeld=>?_)
               clear hK K
               refine norm_ (a':=?_) ?_ ?_
               rotate_left
               ·show Act.put _ (some 36) _ = _
                simp only [Act.put,sA,sB,sC,i64_w,i32_w]
                rfl
               refine pure_ (i:=12) (N:=some 43) (v:=?_) (a':=?_) (bm 7679 16) rfl rfl (by kernel_rfl) (fun _ _ _ h=>h) (Or.inl ⟨by rfl,?_⟩) ?_ ?_
               rotate_left
               ·intro w'
                go_simp
                with_reducible rfl
               rotate_left
               ·simp only [Act.put,sA,sB,sC,i64_w,i32_w]
                rfl
               exact norm_ (by (simp only [putAll,Act.put,sA,sB,sC];done)) (hJ0_2_4_5_7_11 (adA_,cA_,adB_,cB_) _ ⟨HP.out,HG.out,HB.out⟩)
              ·skip
               obtain ⟨ad',e_,hx⟩:=Kd.at_string (Kd.R_reads' HB.out).2.2 e HBe.out.1 (by have:=HBe.out.2;simp only [List.length_cons,List.length_nil];omega)
               cases e_
               replace hx:_ = some (Value.string (noS e)):=hx
               refine value_ (w1:=?_) (v:=?_) (by rfl) rfl ?_ ?_
               rotate_left 2
               ·go_simp
                constructor
                ·rfl
                ·rfl
               clear hx
               refine hK.out _ _ trivial (fun hHeld=>?_)
               clear hK K
               refine norm_ (a':=?_) ?_ ?_
               rotate_left
               ·show Act.put _ (some 41) _ = _
                simp only [Act.put,sA,sB,sC,i64_w,i32_w]
                rfl
               exact norm_ (by (simp only [putAll,Act.put,sA,sB,sC];done)) (hJ0_2_5_7_9_11 (adA_,cA_,adB_,cB_) _ ⟨HP.out,HG.out,HA.out⟩)
            ·skip
             rintro ⟨adA_,cA_,adB_,cB_⟩ w0_2_5_7_9_ ⟨hP_,hG_,hHA_⟩
             have HP:Aside0 (PaS w gd raw (rollU raw (rollU raw u3)) v5 out w0_2_5_7_9_):=⟨hP_⟩
             have HG:Aside0 (w0_2_5_7_9_.heap[g]? = some (.cells #[.int .i64 (1 + (i:Int) * 2 + a),.int .i64 site,.int .i64 0,.int .i64 (1 + b),.int .i64 0,.string ⟨#[]⟩,.string ⟨#[]⟩,.string ⟨#[]⟩] 128 (0,0))):=⟨hG_⟩
             have HA:Aside0 (Kd.R Kd.string 9 w0_2_5_7_9_ w.heap.size (fun _=>True) (.slice (some adA_) 2 cA_) ([⟨#[120]⟩,⟨#[121]⟩]:List ByteArray)):=⟨hHA_⟩
             clear hP_ hG_ hHA_
             have hHeld:True:=trivial
             refine norm_ (a':=?_) ?_ ?_
             rotate_left
             ·simp only [putAll,Act.put,sA,sB,sC]
              rfl
             refine two_ (i:=4) (j:=11) (Ni:=some 36) (Nj:=none) (bm 2047 16) (bm 4079 16) rfl rfl rfl rfl (by kernel_rfl) (by decide) (by decide) (fun K hK=>?_) (fun K hK=>?_)
             ·skip
              obtain ⟨ad',e_,hx⟩:=Kd.at_string (Kd.R_reads' HA.out).2.2 d HBd.out.1 (by have:=HBd.out.2;simp only [List.length_cons,List.length_nil];omega)
              cases e_
              replace hx:_ = some (Value.string (xyS d)):=hx
              refine value_ (w1:=?_) (v:=?_) (by rfl) rfl ?_ ?_
              rotate_left 2
              ·go_simp
               constructor
               ·rfl
               ·rfl
              clear hx
              refine hK.out _ _ trivial (fun hHeld=>?_)
              clear hK K
              refine norm_ (a':=?_) ?_ ?_
              rotate_left
              ·show Act.put _ (some 36) _ = _
               simp only [Act.put,sA,sB,sC,i64_w,i32_w]
               rfl
              exact norm_ (by (simp only [putAll,Act.put,sA,sB,sC];done)) (hJ0_2_4_5_7_9 (adA_,cA_,adB_,cB_) _ ⟨HP.out,HG.out⟩)
             ·skip
              have hs_:=(blk_cell HG.out 2).trans rfl
              have hf_:=blk_frozen HG.out 2
              refine skip_ (w1:=?_) (by rfl) rfl ?_ ?_
              rotate_left
              ·go_simp
               rfl
              have HG0:=HG
              have HG:=Aside0.mk (blk_put HG.out 2 (.int .i64 1) #[.int .i64 (1 + (i:Int) * 2 + a),.int .i64 site,.int .i64 1,.int .i64 (1 + b),.int .i64 0,.string ⟨#[]⟩,.string ⟨#[]⟩,.string ⟨#[]⟩] rfl)
              have HP:=Aside0.mk (HP.out.set HG0.out HGL.out HGN.out 2 (.int .i64 1))
              have HA:=Aside0.mk (strR_set HA.out HG0.out (by decide) 2 (.int .i64 1))
              clear HG0 hs_ hf_
              refine hK.out _ _ trivial (fun hHeld=>?_)
              clear hK K
              exact norm_ (by (simp only [putAll,Act.put,sA,sB,sC];done)) (hJ0_2_5_7_9_11 (adA_,cA_,adB_,cB_) _ ⟨HP.out,HG.out,HA.out⟩)
           ·skip
            rintro ⟨adA_,cA_⟩ w0_2_4_7_11_ ⟨hP_,hG_⟩
            have HP:Aside0 (PaS w gd raw (rollU raw (rollU raw u3)) v5 out w0_2_4_7_11_):=⟨hP_⟩
            have HG:Aside0 (w0_2_4_7_11_.heap[g]? = some (.cells #[.int .i64 (1 + (i:Int) * 2 + a),.int .i64 site,.int .i64 1,.int .i64 (1 + b),.int .i64 0,.string ⟨#[]⟩,.string ⟨#[]⟩,.string ⟨#[]⟩] 128 (0,0))):=⟨hG_⟩
            clear hP_ hG_
            have hHeld:True:=trivial
            refine norm_ (a':=?_) ?_ ?_
            rotate_left
            ·simp only [putAll,Act.put,sA,sB,sC]
             rfl
            refine two_ (i:=5) (j:=13) (Ni:=some 37) (Nj:=none) (bm 7423 16) (bm 15583 16) rfl rfl rfl rfl (by kernel_rfl) (by decide) (by decide) (fun K hK=>?_) (fun K hK=>?_)
            ·skip
             refine Kd.R_lit_step Kd.string (w0:=w) w.heap.size 9 (by rfl) (N:=37) rfl (xs:=([⟨#[]⟩,⟨#[49]⟩,⟨#[50]⟩]:List ByteArray)) (inner:=[.string ⟨#[]⟩,.string ⟨#[49]⟩,.string ⟨#[50]⟩]) (ok:=fun _=>True) (okp:=fun _=>True) ?hr ?hp (fun _ hk=>hk) trivial HP.out.bel HP.out.size (by simp) ?_
             case hr=>(go_simp;done)
             case hp=>exact Reps.one rfl (Reps.one rfl (Reps.one rfl (Reps.none _ _)))
             intro v_ w_ hR hB hg hn
             obtain ⟨adB_,cB_,e_⟩:=strR_ad hR (by decide)
             subst e_
             have HB:Aside0 (Kd.R Kd.string 9 w_ w.heap.size (fun _=>True) (.slice (some adB_) 3 cB_) ([⟨#[]⟩,⟨#[49]⟩,⟨#[50]⟩]:List ByteArray)):=⟨hR⟩
             have hbl:=grown_below hg
             have HG:=Aside0.mk ((hbl.block g (blk_lt HG.out)).trans HG.out)
             have HP:=Aside0.mk (HP.out.below hbl)
             clear hR hB hg hn hbl
             refine hK.out _ _ trivial (fun hHeld=>?_)
             clear hK K
             refine norm_ (a':=?_) ?_ ?_
             rotate_left
             ·show Act.put _ (some 37) _ = _
              simp only [Act.put,sA,sB,sC,i64_w,i32_w]
              rfl
             refine pure_ (i:=8) (N:=some 40) (v:=?_) (a':=?_) (bm 7679 16) rfl rfl (by kernel_rfl) (fun _ _ _ h=>h) (Or.inl ⟨by rfl,?_⟩) ?_ ?_
             rotate_left
             ·intro w'
              go_simp
              with_reducible rfl
             rotate_left
             ·simp only [Act.put,sA,sB,sC,i64_w,i32_w]
              rfl
             exact norm_ (by (simp only [putAll,Act.put,sA,sB,sC];rfl)) (hJ0_2_4_5_7_11 (adA_,cA_,adB_,cB_) _ ⟨HP.out,HG.out,HB.out⟩)
            ·skip
             have hs_:=(blk_cell HG.out 6).trans rfl
             have hf_:=blk_frozen HG.out 6
             refine skip_ (w1:=?_) (by rfl) rfl ?_ ?_
             rotate_left
             ·go_simp
              rfl
             have HG0:=HG
             have HG:=Aside0.mk (blk_put HG.out 6 (.string (xyS d)) #[.int .i64 (1 + (i:Int) * 2 + a),.int .i64 site,.int .i64 1,.int .i64 (1 + b),.int .i64 0,.string ⟨#[]⟩,.string (xyS d),.string ⟨#[]⟩] rfl)
             have HP:=Aside0.mk (HP.out.set HG0.out HGL.out HGN.out 6 (.string (xyS d)))
             clear HG0 hs_ hf_
             refine hK.out _ _ trivial (fun hHeld=>?_)
             clear hK K
             exact norm_ (by (simp only [putAll,Act.put,sA,sB,sC];done)) (hJ0_2_4_7_11_13 (adA_,cA_) _ ⟨HP.out,HG.out⟩)
          ·skip
           rintro ⟨adA_,cA_,adB_,cB_⟩ w0_2_4_5_7_ ⟨hP_,hG_,hHB_⟩
           have HP:Aside0 (PaS w gd raw (rollU raw (rollU raw u3)) v5 out w0_2_4_5_7_):=⟨hP_⟩
           have HG:Aside0 (w0_2_4_5_7_.heap[g]? = some (.cells #[.int .i64 (1 + (i:Int) * 2 + a),.int .i64 site,.int .i64 0,.int .i64 (1 + b),.int .i64 0,.string ⟨#[]⟩,.string ⟨#[]⟩,.string ⟨#[]⟩] 128 (0,0))):=⟨hG_⟩
           have HB:Aside0 (Kd.R Kd.string 9 w0_2_4_5_7_ w.heap.size (fun _=>True) (.slice (some adB_) 3 cB_) ([⟨#[]⟩,⟨#[49]⟩,⟨#[50]⟩]:List ByteArray)):=⟨hHB_⟩
           clear hP_ hG_ hHB_
           have hHeld:True:=trivial
           refine norm_ (a':=?_) ?_ ?_
           rotate_left
           ·simp only [putAll,Act.put,sA,sB,sC]
            rfl
           refine two_ (i:=9) (j:=11) (Ni:=some 41) (Nj:=none) (bm 2047 16) (bm 3583 16) rfl rfl rfl rfl (by kernel_rfl) (by decide) (by decide) (fun K hK=>?_) (fun K hK=>?_)
           ·skip
            obtain ⟨ad',e_,hx⟩:=Kd.at_string (Kd.R_reads' HB.out).2.2 e HBe.out.1 (by have:=HBe.out.2;simp only [List.length_cons,List.length_nil];omega)
            cases e_
            replace hx:_ = some (Value.string (noS e)):=hx
            refine value_ (w1:=?_) (v:=?_) (by rfl) rfl ?_ ?_
            rotate_left 2
            ·go_simp
             constructor
             ·rfl
             ·rfl
            clear hx
            refine hK.out _ _ trivial (fun hHeld=>?_)
            clear hK K
            refine norm_ (a':=?_) ?_ ?_
            rotate_left
            ·show Act.put _ (some 41) _ = _
             simp only [Act.put,sA,sB,sC,i64_w,i32_w]
             rfl
            exact norm_ (by (simp only [putAll,Act.put,sA,sB,sC];done)) (hJ0_2_4_5_7_9 (adA_,cA_,adB_,cB_) _ ⟨HP.out,HG.out⟩)
           ·skip
            have hs_:=(blk_cell HG.out 2).trans rfl
            have hf_:=blk_frozen HG.out 2
            refine skip_ (w1:=?_) (by rfl) rfl ?_ ?_
            rotate_left
            ·go_simp
             rfl
            have HG0:=HG
            have HG:=Aside0.mk (blk_put HG.out 2 (.int .i64 1) #[.int .i64 (1 + (i:Int) * 2 + a),.int .i64 site,.int .i64 1,.int .i64 (1 + b),.int .i64 0,.string ⟨#[]⟩,.string ⟨#[]⟩,.string ⟨#[]⟩] rfl)
            have HP:=Aside0.mk (HP.out.set HG0.out HGL.out HGN.out 2 (.int .i64 1))
            have HB:=Aside0.mk (strR_set HB.out HG0.out (by decide) 2 (.int .i64 1))
            clear HG0 hs_ hf_
            refine hK.out _ _ trivial (fun hHeld=>?_)
            clear hK K
            refine pure_ (i:=12) (N:=some 43) (v:=?_) (a':=?_) (bm 7679 16) rfl rfl (by kernel_rfl) (fun _ _ _ h=>h) (Or.inl ⟨by rfl,?_⟩) ?_ ?_
            rotate_left
            ·intro w'
             go_simp
             with_reducible rfl
            rotate_left
            ·simp only [Act.put,sA,sB,sC,i64_w,i32_w]
             rfl
            exact norm_ (by (simp only [putAll,Act.put,sA,sB,sC];done)) (hJ0_2_4_5_7_11 (adA_,cA_,adB_,cB_) _ ⟨HP.out,HG.out,HB.out⟩)
         ·skip
          rintro ⟨adA_,cA_,adB_,cB_⟩ w0_2_5_7_9_11_ ⟨hP_,hG_,hHA_⟩
          have HP:Aside0 (PaS w gd raw (rollU raw (rollU raw u3)) v5 out w0_2_5_7_9_11_):=⟨hP_⟩
          have HG:Aside0 (w0_2_5_7_9_11_.heap[g]? = some (.cells #[.int .i64 (1 + (i:Int) * 2 + a),.int .i64 site,.int .i64 1,.int .i64 (1 + b),.int .i64 0,.string ⟨#[]⟩,.string ⟨#[]⟩,.string ⟨#[]⟩] 128 (0,0))):=⟨hG_⟩
          have HA:Aside0 (Kd.R Kd.string 9 w0_2_5_7_9_11_ w.heap.size (fun _=>True) (.slice (some adA_) 2 cA_) ([⟨#[120]⟩,⟨#[121]⟩]:List ByteArray)):=⟨hHA_⟩
          clear hP_ hG_ hHA_
          have hHeld:True:=trivial
          refine norm_ (a':=?_) ?_ ?_
          rotate_left
          ·simp only [putAll,Act.put,sA,sB,sC]
           rfl
          refine one_ (i:=4) (N:=some 36) (bm 4095 16) rfl rfl (by kernel_rfl) (by decide) (fun K hK=>?_)
          obtain ⟨ad',e_,hx⟩:=Kd.at_string (Kd.R_reads' HA.out).2.2 d HBd.out.1 (by have:=HBd.out.2;simp only [List.length_cons,List.length_nil];omega)
          cases e_
          replace hx:_ = some (Value.string (xyS d)):=hx
          refine value_ (w1:=?_) (v:=?_) (by rfl) rfl ?_ ?_
          rotate_left 2
          ·go_simp
           constructor
           ·rfl
           ·rfl
          clear hx
          refine hK.out _ _ trivial (fun hHeld=>?_)
          clear hK K
          refine norm_ (a':=?_) ?_ ?_
          rotate_left
          ·show Act.put _ (some 36) _ = _
           simp only [Act.put,sA,sB,sC,i64_w,i32_w]
           rfl
          refine pure_ (i:=12) (N:=some 43) (v:=?_) (a':=?_) (bm 8191 16) rfl rfl (by kernel_rfl) (fun _ _ _ h=>h) (Or.inl ⟨by rfl,?_⟩) ?_ ?_
          rotate_left
          ·intro w'
           go_simp
           with_reducible rfl
          rotate_left
          ·simp only [Act.put,sA,sB,sC,i64_w,i32_w]
           rfl
          exact norm_ (by (simp only [putAll,Act.put,sA,sB,sC];done)) (hJ0_2_4_5_7_9_11 (adA_,cA_,adB_,cB_) _ ⟨HP.out,HG.out⟩)
        ·skip
         rintro ⟨adA_,cA_⟩ w0_2_4_7_11_13_ ⟨hP_,hG_⟩
         have HP:Aside0 (PaS w gd raw (rollU raw (rollU raw u3)) v5 out w0_2_4_7_11_13_):=⟨hP_⟩
         have HG:Aside0 (w0_2_4_7_11_13_.heap[g]? = some (.cells #[.int .i64 (1 + (i:Int) * 2 + a),.int .i64 site,.int .i64 1,.int .i64 (1 + b),.int .i64 0,.string ⟨#[]⟩,.string (xyS d),.string ⟨#[]⟩] 128 (0,0))):=⟨hG_⟩
         clear hP_ hG_
         have hHeld:True:=trivial
         refine norm_ (a':=?_) ?_ ?_
         rotate_left
         ·simp only [putAll,Act.put,sA,sB,sC]
          rfl
         refine one_ (i:=5) (N:=some 37) (bm 15615 16) rfl rfl (by kernel_rfl) (by decide) (fun K hK=>?_)
         refine Kd.R_lit_step Kd.string (w0:=w) w.heap.size 9 (by rfl) (N:=37) rfl (xs:=([⟨#[]⟩,⟨#[49]⟩,⟨#[50]⟩]:List ByteArray)) (inner:=[.string ⟨#[]⟩,.string ⟨#[49]⟩,.string ⟨#[50]⟩]) (ok:=fun _=>True) (okp:=fun _=>True) ?hr ?hp (fun _ hk=>hk) trivial HP.out.bel HP.out.size (by simp) ?_
         case hr=>(go_simp;done)
         case hp=>exact Reps.one rfl (Reps.one rfl (Reps.one rfl (Reps.none _ _)))
         intro v_ w_ hR hB hg hn
         obtain ⟨adB_,cB_,e_⟩:=strR_ad hR (by decide)
         subst e_
         have HB:Aside0 (Kd.R Kd.string 9 w_ w.heap.size (fun _=>True) (.slice (some adB_) 3 cB_) ([⟨#[]⟩,⟨#[49]⟩,⟨#[50]⟩]:List ByteArray)):=⟨hR⟩
         have hbl:=grown_below hg
         have HG:=Aside0.mk ((hbl.block g (blk_lt HG.out)).trans HG.out)
         have HP:=Aside0.mk (HP.out.below hbl)
         clear hR hB hg hn hbl
         refine hK.out _ _ trivial (fun hHeld=>?_)
         clear hK K
         refine norm_ (a':=?_) ?_ ?_
         rotate_left
         ·show Act.put _ (some 37) _ = _
          simp only [Act.put,sA,sB,sC,i64_w,i32_w]
          rfl
         refine pure_ (i:=8) (N:=some 40) (v:=?_) (a':=?_) (bm 15871 16) rfl rfl (by kernel_rfl) (fun _ _ _ h=>h) (Or.inl ⟨by rfl,?_⟩) ?_ ?_
         rotate_left
         ·intro w'
          go_simp
          with_reducible rfl
         rotate_left
         ·simp only [Act.put,sA,sB,sC,i64_w,i32_w]
          rfl
         exact norm_ (by (simp only [putAll,Act.put,sA,sB,sC];rfl)) (hJ0_2_4_5_7_11_13 (adA_,cA_,adB_,cB_) _ ⟨HP.out,HG.out,HB.out⟩)
       ·skip
        rintro ⟨adA_,cA_,adB_,cB_⟩ w0_2_4_5_7_11_ ⟨hP_,hG_,hHB_⟩
        have HP:Aside0 (PaS w gd raw (rollU raw (rollU raw u3)) v5 out w0_2_4_5_7_11_):=⟨hP_⟩
        have HG:Aside0 (w0_2_4_5_7_11_.heap[g]? = some (.cells #[.int .i64 (1 + (i:Int) * 2 + a),.int .i64 site,.int .i64 1,.int .i64 (1 + b),.int .i64 0,.string ⟨#[]⟩,.string ⟨#[]⟩,.string ⟨#[]⟩] 128 (0,0))):=⟨hG_⟩
        have HB:Aside0 (Kd.R Kd.string 9 w0_2_4_5_7_11_ w.heap.size (fun _=>True) (.slice (some adB_) 3 cB_) ([⟨#[]⟩,⟨#[49]⟩,⟨#[50]⟩]:List ByteArray)):=⟨hHB_⟩
        clear hP_ hG_ hHB_
        have hHeld:True:=trivial
        refine norm_ (a':=?_) ?_ ?_
        rotate_left
        ·simp only [putAll,Act.put,sA,sB,sC]
         rfl
        refine two_ (i:=9) (j:=13) (Ni:=some 41) (Nj:=none) (bm 8191 16) (bm 15871 16) rfl rfl rfl rfl (by kernel_rfl) (by decide) (by decide) (fun K hK=>?_) (fun K hK=>?_)
        ·skip
         obtain ⟨ad',e_,hx⟩:=Kd.at_string (Kd.R_reads' HB.out).2.2 e HBe.out.1 (by have:=HBe.out.2;simp only [List.length_cons,List.length_nil];omega)
         cases e_
         replace hx:_ = some (Value.string (noS e)):=hx
         refine value_ (w1:=?_) (v:=?_) (by rfl) rfl ?_ ?_
         rotate_left 2
         ·go_simp
          constructor
          ·rfl
          ·rfl
         clear hx
         refine hK.out _ _ trivial (fun hHeld=>?_)
         clear hK K
         refine norm_ (a':=?_) ?_ ?_
         rotate_left
         ·show Act.put _ (some 41) _ = _
          simp only [Act.put,sA,sB,sC,i64_w,i32_w]
          rfl
         exact norm_ (by (simp only [putAll,Act.put,sA,sB,sC];done)) (hJ0_2_4_5_7_9_11 (adA_,cA_,adB_,cB_) _ ⟨HP.out,HG.out⟩)
        ·skip
         have hs_:=(blk_cell HG.out 6).trans rfl
         have hf_:=blk_frozen HG.out 6
         refine skip_ (w1:=?_) (by rfl) rfl ?_ ?_
         rotate_left
         ·go_simp
          rfl
         have HG0:=HG
         have HG:=Aside0.mk (blk_put HG.out 6 (.string (xyS d)) #[.int .i64 (1 + (i:Int) * 2 + a),.int .i64 site,.int .i64 1,.int .i64 (1 + b),.int .i64 0,.string ⟨#[]⟩,.string (xyS d),.string ⟨#[]⟩] rfl)
         have HP:=Aside0.mk (HP.out.set HG0.out HGL.out HGN.out 6 (.string (xyS d)))
         have HB:=Aside0.mk (strR_set HB.out HG0.out (by decide) 6 (.string (xyS d)))
         clear HG0 hs_ hf_
         refine hK.out _ _ trivial (fun hHeld=>?_)
         clear hK K
         exact norm_ (by (simp only [putAll,Act.put,sA,sB,sC];done)) (hJ0_2_4_5_7_11_13 (adA_,cA_,adB_,cB_) _ ⟨HP.out,HG.out,HB.out⟩)
      ·skip
       rintro ⟨adA_,cA_,adB_,cB_⟩ w0_2_4_5_7_9_ ⟨hP_,hG_⟩
       have HP:Aside0 (PaS w gd raw (rollU raw (rollU raw u3)) v5 out w0_2_4_5_7_9_):=⟨hP_⟩
       have HG:Aside0 (w0_2_4_5_7_9_.heap[g]? = some (.cells #[.int .i64 (1 + (i:Int) * 2 + a),.int .i64 site,.int .i64 0,.int .i64 (1 + b),.int .i64 0,.string ⟨#[]⟩,.string ⟨#[]⟩,.string ⟨#[]⟩] 128 (0,0))):=⟨hG_⟩
       clear hP_ hG_
       have hHeld:True:=trivial
       refine norm_ (a':=?_) ?_ ?_
       rotate_left
       ·simp only [putAll,Act.put,sA,sB,sC]
        rfl
       refine one_ (i:=11) (N:=none) (bm 4095 16) rfl rfl (by kernel_rfl) (by decide) (fun K hK=>?_)
       have hs_:=(blk_cell HG.out 2).trans rfl
       have hf_:=blk_frozen HG.out 2
       refine skip_ (w1:=?_) (by rfl) rfl ?_ ?_
       rotate_left
       ·go_simp
        rfl
       have HG0:=HG
       have HG:=Aside0.mk (blk_put HG.out 2 (.int .i64 1) #[.int .i64 (1 + (i:Int) * 2 + a),.int .i64 site,.int .i64 1,.int .i64 (1 + b),.int .i64 0,.string ⟨#[]⟩,.string ⟨#[]⟩,.string ⟨#[]⟩] rfl)
       have HP:=Aside0.mk (HP.out.set HG0.out HGL.out HGN.out 2 (.int .i64 1))
       clear HG0 hs_ hf_
       refine hK.out _ _ trivial (fun hHeld=>?_)
       clear hK K
       refine pure_ (i:=12) (N:=some 43) (v:=?_) (a':=?_) (bm 8191 16) rfl rfl (by kernel_rfl) (fun _ _ _ h=>h) (Or.inl ⟨by rfl,?_⟩) ?_ ?_
       rotate_left
       ·intro w'
        go_simp
        with_reducible rfl
       rotate_left
       ·simp only [Act.put,sA,sB,sC,i64_w,i32_w]
        rfl
       exact norm_ (by (simp only [putAll,Act.put,sA,sB,sC];done)) (hJ0_2_4_5_7_9_11 (adA_,cA_,adB_,cB_) _ ⟨HP.out,HG.out⟩)
     ·skip
      rintro ⟨adA_,cA_,adB_,cB_⟩ w0_2_4_5_7_11_13_ ⟨hP_,hG_,hHB_⟩
      have HP:Aside0 (PaS w gd raw (rollU raw (rollU raw u3)) v5 out w0_2_4_5_7_11_13_):=⟨hP_⟩
      have HG:Aside0 (w0_2_4_5_7_11_13_.heap[g]? = some (.cells #[.int .i64 (1 + (i:Int) * 2 + a),.int .i64 site,.int .i64 1,.int .i64 (1 + b),.int .i64 0,.string ⟨#[]⟩,.string (xyS d),.string ⟨#[]⟩] 128 (0,0))):=⟨hG_⟩
      have HB:Aside0 (Kd.R Kd.string 9 w0_2_4_5_7_11_13_ w.heap.size (fun _=>True) (.slice (some adB_) 3 cB_) ([⟨#[]⟩,⟨#[49]⟩,⟨#[50]⟩]:List ByteArray)):=⟨hHB_⟩
      clear hP_ hG_ hHB_
      have hHeld:True:=trivial
      refine norm_ (a':=?_) ?_ ?_
      rotate_left
      ·simp only [putAll,Act.put,sA,sB,sC]
       rfl
      refine one_ (i:=9) (N:=some 41) (bm 16383 16) rfl rfl (by kernel_rfl) (by decide) (fun K hK=>?_)
      obtain ⟨ad',e_,hx⟩:=Kd.at_string (Kd.R_reads' HB.out).2.2 e HBe.out.1 (by have:=HBe.out.2;simp only [List.length_cons,List.length_nil];omega)
      cases e_
      replace hx:_ = some (Value.string (noS e)):=hx
      refine value_ (w1:=?_) (v:=?_) (by rfl) rfl ?_ ?_
      rotate_left 2
      ·go_simp
       constructor
       ·rfl
       ·rfl
      clear hx
      refine hK.out _ _ trivial (fun hHeld=>?_)
      clear hK K
      refine norm_ (a':=?_) ?_ ?_
      rotate_left
      ·show Act.put _ (some 41) _ = _
       simp only [Act.put,sA,sB,sC,i64_w,i32_w]
       rfl
      exact norm_ (by (simp only [putAll,Act.put,sA,sB,sC];done)) (hJ0_2_4_5_7_9_11_13 (adA_,cA_,adB_,cB_) _ ⟨HP.out,HG.out⟩)
    ·skip
     rintro ⟨adA_,cA_,adB_,cB_⟩ w0_2_4_5_7_9_11_ ⟨hP_,hG_⟩
     have HP:Aside0 (PaS w gd raw (rollU raw (rollU raw u3)) v5 out w0_2_4_5_7_9_11_):=⟨hP_⟩
     have HG:Aside0 (w0_2_4_5_7_9_11_.heap[g]? = some (.cells #[.int .i64 (1 + (i:Int) * 2 + a),.int .i64 site,.int .i64 1,.int .i64 (1 + b),.int .i64 0,.string ⟨#[]⟩,.string ⟨#[]⟩,.string ⟨#[]⟩] 128 (0,0))):=⟨hG_⟩
     clear hP_ hG_
     have hHeld:True:=trivial
     refine norm_ (a':=?_) ?_ ?_
     rotate_left
     ·simp only [putAll,Act.put,sA,sB,sC]
      rfl
     refine one_ (i:=13) (N:=none) (bm 16383 16) rfl rfl (by kernel_rfl) (by decide) (fun K hK=>?_)
     have hs_:=(blk_cell HG.out 6).trans rfl
     have hf_:=blk_frozen HG.out 6
     refine skip_ (w1:=?_) (by rfl) rfl ?_ ?_
     rotate_left
     ·go_simp
      rfl
     have HG0:=HG
     have HG:=Aside0.mk (blk_put HG.out 6 (.string (xyS d)) #[.int .i64 (1 + (i:Int) * 2 + a),.int .i64 site,.int .i64 1,.int .i64 (1 + b),.int .i64 0,.string ⟨#[]⟩,.string (xyS d),.string ⟨#[]⟩] rfl)
     have HP:=Aside0.mk (HP.out.set HG0.out HGL.out HGN.out 6 (.string (xyS d)))
     clear HG0 hs_ hf_
     refine hK.out _ _ trivial (fun hHeld=>?_)
     clear hK K
     exact norm_ (by (simp only [putAll,Act.put,sA,sB,sC];done)) (hJ0_2_4_5_7_9_11_13 (adA_,cA_,adB_,cB_) _ ⟨HP.out,HG.out⟩)
   rintro ⟨adA_,cA_,adB_,cB_⟩ w0_2_4_5_7_9_11_13_ ⟨hP_,hG_⟩
   have HP:Aside0 (PaS w gd raw (rollU raw (rollU raw u3)) v5 out w0_2_4_5_7_9_11_13_):=⟨hP_⟩
   have HG:Aside0 (w0_2_4_5_7_9_11_13_.heap[g]? = some (.cells #[.int .i64 (1 + (i:Int) * 2 + a),.int .i64 site,.int .i64 1,.int .i64 (1 + b),.int .i64 0,.string ⟨#[]⟩,.string (xyS d),.string ⟨#[]⟩] 128 (0,0))):=⟨hG_⟩
   clear hP_ hG_
   have hHeld:True:=trivial
   refine norm_ (a':=?_) ?_ ?_
   rotate_left
   ·simp only [putAll,Act.put,sA,sB,sC]
    rfl
   refine pure_ (i:=14) (N:=some 44) (v:=?_) (a':=?_) (bm 32767 16) rfl rfl (by kernel_rfl) (fun _ _ _ h=>h) (Or.inl ⟨by rfl,?_⟩) ?_ ?_
   rotate_left
   ·intro w'
    go_simp
    with_reducible rfl
   rotate_left
   ·simp only [Act.put,sA,sB,sC,i64_w,i32_w]
    rfl
   refine last_ (i:=15) (N:=none) (bm 65535 16) rfl rfl (by kernel_rfl) (by decide) (fun K hK=>?_)
   have hs_:=(blk_cell HG.out 7).trans rfl
   have hf_:=blk_frozen HG.out 7
   refine skip_ (w1:=?_) (by rfl) rfl ?_ ?_
   rotate_left
   ·go_simp
    rfl
   have HG0:=HG
   have HG:=Aside0.mk (blk_put HG.out 7 (.string (noS e)) #[.int .i64 (1 + (i:Int) * 2 + a),.int .i64 site,.int .i64 1,.int .i64 (1 + b),.int .i64 0,.string ⟨#[]⟩,.string (xyS d),.string (noS e)] rfl)
   have HP:=Aside0.mk (HP.out.set HG0.out HGL.out HGN.out 7 (.string (noS e)))
   clear HG0 hs_ hf_
   refine hK.out _ _ ?_
   clear hK K
   refine done_ (by kernel_rfl) ?_
   clear hHeld
   obtain ⟨w9,hw9⟩:∃ W,W = w0_2_4_5_7_9_11_13_.setCell ⟨g,7,none⟩ (.string (noS e)):=⟨_,rfl⟩
   rw [← hw9] at HP HG
   rw [← hw9]
   clear hw9
   have cg0:w9.cell? ⟨g,0,none⟩ = some (.int .i64 (1 + (i:Int) * 2 + a)):=(blk_cell HG.out 0).trans rfl
   have cg1:w9.cell? ⟨g,1,none⟩ = some (.int .i64 site):=(blk_cell HG.out 1).trans rfl
   have cg2:w9.cell? ⟨g,2,none⟩ = some (.int .i64 1):=(blk_cell HG.out 2).trans rfl
   have cg3:w9.cell? ⟨g,3,none⟩ = some (.int .i64 (1 + b)):=(blk_cell HG.out 3).trans rfl
   have cg4:w9.cell? ⟨g,4,none⟩ = some (.int .i64 0):=(blk_cell HG.out 4).trans rfl
   have cg5:w9.cell? ⟨g,5,none⟩ = some (.string ⟨#[]⟩):=(blk_cell HG.out 5).trans rfl
   have cg6:w9.cell? ⟨g,6,none⟩ = some (.string (xyS d)):=(blk_cell HG.out 6).trans rfl
   have cg7:w9.cell? ⟨g,7,none⟩ = some (.string (noS e)):=(blk_cell HG.out 7).trans rfl
   go_wp2_with (at_builtin;refine Kd.R_append k128 (w0:=w) (W:=w9) w.heap.size rfl (.tmp 55) (.tmp 57) 65 128 (.agg #[(.int .i64 0),(.int .i64 0),(.int .i64 0),(.int .i64 0),(.int .i64 0),(.string ⟨#[]⟩),(.string ⟨#[]⟩),(.string ⟨#[]⟩)]) 88 rfl Try.underlying65 info128 rfl (by decide) (by decide) v5 out ⟨1 + (i:Int) * 2 + a,site,1,1 + b,0,⟨#[]⟩,xyS d,noS e⟩ [.int .i64 (1 + (i:Int) * 2 + a),.int .i64 site,.int .i64 1,.int .i64 (1 + b),.int .i64 0,.string ⟨#[]⟩,.string (xyS d),.string (noS e)] (fun _=>True) (fun _=>False) rfl rfl (k128_mkM _ _ _ ⟨1 + (i:Int) * 2 + a,site,1,1 + b,0,⟨#[]⟩,xyS d,noS e⟩) (fun _ hk=>hk.elim) (fun _ _=>trivial) HP.out.row HP.out.bel HP.out.size (by have h1:=HI.out.2.2;have h2:=HNI.out;omega) ?_;intro vn wn hR hB hg ha;have HPN:=Aside0.mk (HP.out.append hR hB hg);clear hR hB hg ha HP HG)
   have wk:=HWK.out
   go_roundg gl
   case measure=>omega
   case rel=>exact ⟨i + 1,_,vn,_,rfl,by simp [wk],⟨⟨by have:=HI.out;omega,HU5.out,by rw [List.length_append,HI.out.2.2];rfl⟩⟩,HLX,HPN⟩
  ·have hpx:=HPX.out
   rw [if_neg d2] at hpx
   obtain ⟨d,hd,hpx⟩:=Option.bind_eq_some_iff.1 hpx
   obtain ⟨e,he,hpx⟩:=Option.bind_eq_some_iff.1 hpx
   obtain rfl:=Option.some.inj hpx
   obtain ⟨hd0,hd1⟩:=roll_range (by omega) (by omega) hd
   obtain ⟨he0,he1⟩:=roll_range (by omega) (by omega) he
   have HRd:=Aside0.mk hd
   have HRe:=Aside0.mk he
   have HBd:=Aside0.mk (And.intro hd0 hd1)
   have HBe:=Aside0.mk (And.intro he0 he1)
   have t1:(c == 0) = false:=by simpa using d2
   have w5k:IntKind.i64.wrap (d - 1) = d - 1:=by rw [i64_w];unfold wrap64;omega
   clear hpx hd he d2
   go_upto_region 9 with (go_at_call 40;(with_reducible refine (HP4.out.roll_calls HUc.out HRc.out).mono ?_);rintro e3 w5 ⟨rfl,hP,hfr,_⟩;have HP5:=Aside0.mk hP;have HG5:=Aside0.mk ((hfr g _ 128 (by decide) HG4.out).trans HG4.out);clear hP hfr)
   rw [HU3.out.1] at HP5
   have HP:=Aside0.mk HP5.out.drew
   have HG:=Aside0.mk (blk_drew HG5.out)
   clear HP4 HG4 HP5 HG5 HRc HUc
   refine start_ (n:=12) (S:=fun w'=>True) (ds:=[11]) #[false,false,false,false,false,false,false,false,false,false,false,false] (by kernel_rfl) rfl rfl trivial (fun hHeld=>?_)
   refine pure_ (i:=0) (N:=some 45) (v:=?_) (a':=?_) (bm 1 12) rfl rfl (by kernel_rfl) (fun _ _ _ h=>h) (Or.inl ⟨by rfl,?_⟩) ?_ ?_
   rotate_left
   ·intro w'
    go_simp
    with_reducible rfl
   rotate_left
   ·simp only [Act.put,sA,sB,sC,i64_w,i32_w]
    rfl
   refine pure_ (i:=4) (N:=some 49) (v:=?_) (a':=?_) (bm 17 12) rfl rfl (by kernel_rfl) (fun _ _ _ h=>h) (Or.inl ⟨by rfl,?_⟩) ?_ ?_
   rotate_left
   ·intro w'
    go_simp
    with_reducible rfl
   rotate_left
   ·simp only [Act.put,sA,sB,sC,i64_w,i32_w]
    rfl
   refine join_ (σ:=Addr × Nat) 2 (bm 1023 12) (fun s_=>[(46,.int .i64 d),(48,.slice (some s_.1) 3 s_.2),(50,.int .i64 e),(52,.string (plS e)),(47,.int .i64 (d - 1)),(51,.pointer (some (s_.1.add e.toNat))),(53,.pointer (some ⟨g,4,none⟩))]) (fun s_ w'=>(PaS w gd raw (rollU raw (rollU raw u3)) v5 out w') ∧ (w'.heap[g]? = some (.cells #[.int .i64 (1 + (i:Int) * 2 + a),.int .i64 site,.int .i64 0,.int .i64 (1 + b),.int .i64 (d - 1),.string ⟨#[]⟩,.string ⟨#[]⟩,.string ⟨#[]⟩] 128 (0,0)))) ?_ ?_
   rotate_left
   ·intro hJ1_3_5_7_9
    refine join_ (σ:=Addr × Nat) 3 (bm 511 12) (fun s_=>[(46,.int .i64 d),(48,.slice (some s_.1) 3 s_.2),(50,.int .i64 e),(52,.string (plS e)),(47,.int .i64 (d - 1)),(51,.pointer (some (s_.1.add e.toNat))),(53,.pointer (some ⟨g,4,none⟩))]) (fun s_ w'=>(PaS w gd raw (rollU raw (rollU raw u3)) v5 out w') ∧ (w'.heap[g]? = some (.cells #[.int .i64 (1 + (i:Int) * 2 + a),.int .i64 site,.int .i64 0,.int .i64 (1 + b),.int .i64 0,.string ⟨#[]⟩,.string ⟨#[]⟩,.string ⟨#[]⟩] 128 (0,0)))) ?_ ?_
    rotate_left
    ·intro hJ1_3_5_7
     refine join_ (σ:=Addr × Nat) 3 (bm 895 12) (fun s_=>[(46,.int .i64 d),(48,.slice (some s_.1) 3 s_.2),(50,.int .i64 e),(47,.int .i64 (d - 1)),(51,.pointer (some (s_.1.add e.toNat))),(53,.pointer (some ⟨g,4,none⟩))]) (fun s_ w'=>(PaS w gd raw (rollU raw (rollU raw u3)) v5 out w') ∧ (w'.heap[g]? = some (.cells #[.int .i64 (1 + (i:Int) * 2 + a),.int .i64 site,.int .i64 0,.int .i64 (1 + b),.int .i64 (d - 1),.string ⟨#[]⟩,.string ⟨#[]⟩,.string ⟨#[]⟩] 128 (0,0))) ∧ (Kd.R Kd.string 9 w' w.heap.size (fun _=>True) (.slice (some s_.1) 3 s_.2) ([⟨#[98]⟩,⟨#[99]⟩,⟨#[100]⟩]:List ByteArray))) ?_ ?_
     rotate_left
     ·intro hJ1_3_5_9
      refine join_ (σ:=Addr × Nat) 4 (bm 383 12) (fun s_=>[(46,.int .i64 d),(48,.slice (some s_.1) 3 s_.2),(50,.int .i64 e),(47,.int .i64 (d - 1)),(51,.pointer (some (s_.1.add e.toNat))),(53,.pointer (some ⟨g,4,none⟩))]) (fun s_ w'=>(PaS w gd raw (rollU raw (rollU raw u3)) v5 out w') ∧ (w'.heap[g]? = some (.cells #[.int .i64 (1 + (i:Int) * 2 + a),.int .i64 site,.int .i64 0,.int .i64 (1 + b),.int .i64 0,.string ⟨#[]⟩,.string ⟨#[]⟩,.string ⟨#[]⟩] 128 (0,0))) ∧ (Kd.R Kd.string 9 w' w.heap.size (fun _=>True) (.slice (some s_.1) 3 s_.2) ([⟨#[98]⟩,⟨#[99]⟩,⟨#[100]⟩]:List ByteArray))) ?_ ?_
      rotate_left
      ·intro hJ1_3_5
       refine join_ (σ:=Unit) 5 (bm 823 12) (fun s_=>[(46,.int .i64 d),(50,.int .i64 e),(47,.int .i64 (d - 1)),(53,.pointer (some ⟨g,4,none⟩))]) (fun s_ w'=>(PaS w gd raw (rollU raw (rollU raw u3)) v5 out w') ∧ (w'.heap[g]? = some (.cells #[.int .i64 (1 + (i:Int) * 2 + a),.int .i64 site,.int .i64 0,.int .i64 (1 + b),.int .i64 (d - 1),.string ⟨#[]⟩,.string ⟨#[]⟩,.string ⟨#[]⟩] 128 (0,0)))) ?_ ?_
       rotate_left
       ·intro hJ1_5_9
        refine join_ (σ:=Addr × Nat) 6 (bm 287 12) (fun s_=>[(46,.int .i64 d),(48,.slice (some s_.1) 3 s_.2),(47,.int .i64 (d - 1)),(53,.pointer (some ⟨g,4,none⟩))]) (fun s_ w'=>(PaS w gd raw (rollU raw u3) v5 out w') ∧ (w'.heap[g]? = some (.cells #[.int .i64 (1 + (i:Int) * 2 + a),.int .i64 site,.int .i64 0,.int .i64 (1 + b),.int .i64 0,.string ⟨#[]⟩,.string ⟨#[]⟩,.string ⟨#[]⟩] 128 (0,0))) ∧ (Kd.R Kd.string 9 w' w.heap.size (fun _=>True) (.slice (some s_.1) 3 s_.2) ([⟨#[98]⟩,⟨#[99]⟩,⟨#[100]⟩]:List ByteArray))) ?_ ?_
        rotate_left
        ·intro hJ1_3
         refine join_ (σ:=Unit) 6 (bm 311 12) (fun s_=>[(46,.int .i64 d),(50,.int .i64 e),(47,.int .i64 (d - 1)),(53,.pointer (some ⟨g,4,none⟩))]) (fun s_ w'=>(PaS w gd raw (rollU raw (rollU raw u3)) v5 out w') ∧ (w'.heap[g]? = some (.cells #[.int .i64 (1 + (i:Int) * 2 + a),.int .i64 site,.int .i64 0,.int .i64 (1 + b),.int .i64 0,.string ⟨#[]⟩,.string ⟨#[]⟩,.string ⟨#[]⟩] 128 (0,0)))) ?_ ?_
         rotate_left
         ·intro hJ1_5
          refine join_ (σ:=Unit) 7 (bm 279 12) (fun s_=>[(46,.int .i64 d),(47,.int .i64 (d - 1)),(53,.pointer (some ⟨g,4,none⟩))]) (fun s_ w'=>(PaS w gd raw (rollU raw u3) v5 out w') ∧ (w'.heap[g]? = some (.cells #[.int .i64 (1 + (i:Int) * 2 + a),.int .i64 site,.int .i64 0,.int .i64 (1 + b),.int .i64 0,.string ⟨#[]⟩,.string ⟨#[]⟩,.string ⟨#[]⟩] 128 (0,0)))) ?_ ?_
          rotate_left
          ·intro hJ1
           refine join_ (σ:=Addr × Nat) 9 (bm 25 12) (fun s_=>[(48,.slice (some s_.1) 3 s_.2)]) (fun s_ w'=>(PaS w gd raw u3 v5 out w') ∧ (w'.heap[g]? = some (.cells #[.int .i64 (1 + (i:Int) * 2 + a),.int .i64 site,.int .i64 0,.int .i64 (1 + b),.int .i64 0,.string ⟨#[]⟩,.string ⟨#[]⟩,.string ⟨#[]⟩] 128 (0,0))) ∧ (Kd.R Kd.string 9 w' w.heap.size (fun _=>True) (.slice (some s_.1) 3 s_.2) ([⟨#[98]⟩,⟨#[99]⟩,⟨#[100]⟩]:List ByteArray))) ?_ ?_
           rotate_left
           ·intro hJ3
            refine two_ (i:=1) (j:=3) (Ni:=some 46) (Nj:=some 48) (bm 19 12) (bm 25 12) rfl rfl rfl rfl (by kernel_rfl) (by decide) (by decide) (fun K hK=>?_) (fun K hK=>?_)
            ·skip
             refine goes_ Try.func40 (by kernel_rfl) rfl #[.pointer (some ⟨gd,0,none⟩),.int .i64 8] (by rfl) rfl rfl (by simp only [List.map_toArray,List.map_cons,List.map_nil];rfl) ?_
             with_reducible refine (HP.out.roll_calls HUd.out HRd.out).mono ?_
             rintro e w_ ⟨rfl,hP,hfr,hsz⟩
             refine ⟨_,rfl,?_⟩
             have HG:=Aside0.mk ((hfr g _ 128 (by decide) HG.out).trans HG.out)
             have HP:=Aside0.mk hP
             clear hP hfr hsz
             refine hK.out _ _ trivial (fun hHeld=>?_)
             clear hK K
             refine norm_ (a':=?_) ?_ ?_
             rotate_left
             ·show Act.put _ (some 46) _ = _
              simp only [Act.put,sA,sB,sC,i64_w,i32_w]
              rfl
             refine pure_ (i:=2) (N:=some 47) (v:=?_) (a':=?_) (bm 23 12) rfl rfl (by kernel_rfl) (fun _ _ _ h=>h) (Or.inl ⟨by rfl,?_⟩) ?_ ?_
             rotate_left
             ·intro w'
              go_simp
              with_reducible rfl
             rotate_left
             ·simp only [Act.put,sA,sB,sC,i64_w,i32_w]
              rfl
             refine pure_ (i:=8) (N:=some 53) (v:=?_) (a':=?_) (bm 279 12) rfl rfl (by kernel_rfl) (fun _ _ _ h=>h) (Or.inl ⟨by rfl,?_⟩) ?_ ?_
             rotate_left
             ·intro w'
              go_simp
              with_reducible rfl
             rotate_left
             ·simp only [Act.put,sA,sB,sC,i64_w,i32_w]
              rfl
             exact norm_ (by (simp only [putAll,Act.put,sA,sB,sC];done)) (hJ1 () _ ⟨HP.out,HG.out⟩)
            ·skip
             refine Kd.R_lit_step Kd.string (w0:=w) w.heap.size 9 (by rfl) (N:=48) rfl (xs:=([⟨#[98]⟩,⟨#[99]⟩,⟨#[100]⟩]:List ByteArray)) (inner:=[.string ⟨#[98]⟩,.string ⟨#[99]⟩,.string ⟨#[100]⟩]) (ok:=fun _=>True) (okp:=fun _=>True) ?hr ?hp (fun _ hk=>hk) trivial HP.out.bel HP.out.size (by simp) ?_
             case hr=>(go_simp;done)
             case hp=>exact Reps.one rfl (Reps.one rfl (Reps.one rfl (Reps.none _ _)))
             intro v_ w_ hR hB hg hn
             obtain ⟨adB_,cB_,e_⟩:=strR_ad hR (by decide)
             subst e_
             have HB:Aside0 (Kd.R Kd.string 9 w_ w.heap.size (fun _=>True) (.slice (some adB_) 3 cB_) ([⟨#[98]⟩,⟨#[99]⟩,⟨#[100]⟩]:List ByteArray)):=⟨hR⟩
             have hbl:=grown_below hg
             have HG:=Aside0.mk ((hbl.block g (blk_lt HG.out)).trans HG.out)
             have HP:=Aside0.mk (HP.out.below hbl)
             clear hR hB hg hn hbl
             refine hK.out _ _ trivial (fun hHeld=>?_)
             clear hK K
             refine norm_ (a':=?_) ?_ ?_
             rotate_left
             ·show Act.put _ (some 48) _ = _
              simp only [Act.put,sA,sB,sC,i64_w,i32_w]
              rfl
             exact norm_ (by (simp only [putAll,Act.put,sA,sB,sC];rfl)) (hJ3 (adB_,cB_) _ ⟨HP.out,HG.out,HB.out⟩)
           ·skip
            rintro ⟨adB_,cB_⟩ w3_ ⟨hP_,hG_,hHB_⟩
            have HP:Aside0 (PaS w gd raw u3 v5 out w3_):=⟨hP_⟩
            have HG:Aside0 (w3_.heap[g]? = some (.cells #[.int .i64 (1 + (i:Int) * 2 + a),.int .i64 site,.int .i64 0,.int .i64 (1 + b),.int .i64 0,.string ⟨#[]⟩,.string ⟨#[]⟩,.string ⟨#[]⟩] 128 (0,0))):=⟨hG_⟩
            have HB:Aside0 (Kd.R Kd.string 9 w3_ w.heap.size (fun _=>True) (.slice (some adB_) 3 cB_) ([⟨#[98]⟩,⟨#[99]⟩,⟨#[100]⟩]:List ByteArray)):=⟨hHB_⟩
            clear hP_ hG_ hHB_
            have hHeld:True:=trivial
            refine norm_ (a':=?_) ?_ ?_
            rotate_left
            ·simp only [putAll,Act.put,sA,sB,sC]
             rfl
            refine one_ (i:=1) (N:=some 46) (bm 27 12) rfl rfl (by kernel_rfl) (by decide) (fun K hK=>?_)
            refine goes_ Try.func40 (by kernel_rfl) rfl #[.pointer (some ⟨gd,0,none⟩),.int .i64 8] (by rfl) rfl rfl (by simp only [List.map_toArray,List.map_cons,List.map_nil];rfl) ?_
            with_reducible refine (HP.out.roll_calls HUd.out HRd.out).mono ?_
            rintro e w_ ⟨rfl,hP,hfr,hsz⟩
            refine ⟨_,rfl,?_⟩
            have HG:=Aside0.mk ((hfr g _ 128 (by decide) HG.out).trans HG.out)
            have HB:=Aside0.mk (strR_move HB.out (fun k cells hc=>hfr k cells 9 (by decide) hc))
            have HP:=Aside0.mk hP
            clear hP hfr hsz
            refine hK.out _ _ trivial (fun hHeld=>?_)
            clear hK K
            refine norm_ (a':=?_) ?_ ?_
            rotate_left
            ·show Act.put _ (some 46) _ = _
             simp only [Act.put,sA,sB,sC,i64_w,i32_w]
             rfl
            refine pure_ (i:=2) (N:=some 47) (v:=?_) (a':=?_) (bm 31 12) rfl rfl (by kernel_rfl) (fun _ _ _ h=>h) (Or.inl ⟨by rfl,?_⟩) ?_ ?_
            rotate_left
            ·intro w'
             go_simp
             with_reducible rfl
            rotate_left
            ·simp only [Act.put,sA,sB,sC,i64_w,i32_w]
             rfl
            refine pure_ (i:=8) (N:=some 53) (v:=?_) (a':=?_) (bm 287 12) rfl rfl (by kernel_rfl) (fun _ _ _ h=>h) (Or.inl ⟨by rfl,?_⟩) ?_ ?_
            rotate_left
            ·intro w'
             go_simp
             with_reducible rfl
            rotate_left
            ·simp only [Act.put,sA,sB,sC,i64_w,i32_w]
             rfl
            exact norm_ (by (simp only [putAll,Act.put,sA,sB,sC];done)) (hJ1_3 (adB_,cB_) _ ⟨HP.out,HG.out,HB.out⟩)
          ·skip
           rintro _ w1_ ⟨hP_,hG_⟩
           have HP:Aside0 (PaS w gd raw (rollU raw u3) v5 out w1_):=⟨hP_⟩
           have HG:Aside0 (w1_.heap[g]? = some (.cells #[.int .i64 (1 + (i:Int) * 2 + a),.int .i64 site,.int .i64 0,.int .i64 (1 + b),.int .i64 0,.string ⟨#[]⟩,.string ⟨#[]⟩,.string ⟨#[]⟩] 128 (0,0))):=⟨hG_⟩
           clear hP_ hG_
           have hHeld:True:=trivial
           refine norm_ (a':=?_) ?_ ?_
           rotate_left
           ·simp only [putAll,Act.put,sA,sB,sC]
            rfl
           refine two_ (i:=3) (j:=5) (Ni:=some 48) (Nj:=some 50) (bm 287 12) (bm 311 12) rfl rfl rfl rfl (by kernel_rfl) (by decide) (by decide) (fun K hK=>?_) (fun K hK=>?_)
           ·skip
            refine Kd.R_lit_step Kd.string (w0:=w) w.heap.size 9 (by rfl) (N:=48) rfl (xs:=([⟨#[98]⟩,⟨#[99]⟩,⟨#[100]⟩]:List ByteArray)) (inner:=[.string ⟨#[98]⟩,.string ⟨#[99]⟩,.string ⟨#[100]⟩]) (ok:=fun _=>True) (okp:=fun _=>True) ?hr ?hp (fun _ hk=>hk) trivial HP.out.bel HP.out.size (by simp) ?_
            case hr=>(go_simp;done)
            case hp=>exact Reps.one rfl (Reps.one rfl (Reps.one rfl (Reps.none _ _)))
            intro v_ w_ hR hB hg hn
            obtain ⟨adB_,cB_,e_⟩:=strR_ad hR (by decide)
            subst e_
            have HB:Aside0 (Kd.R Kd.string 9 w_ w.heap.size (fun _=>True) (.slice (some adB_) 3 cB_) ([⟨#[98]⟩,⟨#[99]⟩,⟨#[100]⟩]:List ByteArray)):=⟨hR⟩
            have hbl:=grown_below hg
            have HG:=Aside0.mk ((hbl.block g (blk_lt HG.out)).trans HG.out)
            have HP:=Aside0.mk (HP.out.below hbl)
            clear hR hB hg hn hbl
            refine hK.out _ _ trivial (fun hHeld=>?_)
            clear hK K
            refine norm_ (a':=?_) ?_ ?_
            rotate_left
            ·show Act.put _ (some 48) _ = _
             simp only [Act.put,sA,sB,sC,i64_w,i32_w]
             rfl
            exact norm_ (by (simp only [putAll,Act.put,sA,sB,sC];rfl)) (hJ1_3 (adB_,cB_) _ ⟨HP.out,HG.out,HB.out⟩)
           ·skip
            refine goes_ Try.func40 (by kernel_rfl) rfl #[.pointer (some ⟨gd,0,none⟩),.int .i64 3] (by rfl) rfl rfl (by simp only [List.map_toArray,List.map_cons,List.map_nil];rfl) ?_
            with_reducible refine (HP.out.roll_calls HUe.out HRe.out).mono ?_
            rintro e w_ ⟨rfl,hP,hfr,hsz⟩
            refine ⟨_,rfl,?_⟩
            have HG:=Aside0.mk ((hfr g _ 128 (by decide) HG.out).trans HG.out)
            have HP:=Aside0.mk hP
            clear hP hfr hsz
            refine hK.out _ _ trivial (fun hHeld=>?_)
            clear hK K
            refine norm_ (a':=?_) ?_ ?_
            rotate_left
            ·show Act.put _ (some 50) _ = _
             simp only [Act.put,sA,sB,sC,i64_w,i32_w]
             rfl
            exact norm_ (by (simp only [putAll,Act.put,sA,sB,sC];done)) (hJ1_5 () _ ⟨HP.out,HG.out⟩)
         ·skip
          rintro _ w1_5_ ⟨hP_,hG_⟩
          have HP:Aside0 (PaS w gd raw (rollU raw (rollU raw u3)) v5 out w1_5_):=⟨hP_⟩
          have HG:Aside0 (w1_5_.heap[g]? = some (.cells #[.int .i64 (1 + (i:Int) * 2 + a),.int .i64 site,.int .i64 0,.int .i64 (1 + b),.int .i64 0,.string ⟨#[]⟩,.string ⟨#[]⟩,.string ⟨#[]⟩] 128 (0,0))):=⟨hG_⟩
          clear hP_ hG_
          have hHeld:True:=trivial
          refine norm_ (a':=?_) ?_ ?_
          rotate_left
          ·simp only [putAll,Act.put,sA,sB,sC]
           rfl
          refine two_ (i:=3) (j:=9) (Ni:=some 48) (Nj:=none) (bm 319 12) (bm 823 12) rfl rfl rfl rfl (by kernel_rfl) (by decide) (by decide) (fun K hK=>?_) (fun K hK=>?_)
          ·skip
           refine Kd.R_lit_step Kd.string (w0:=w) w.heap.size 9 (by rfl) (N:=48) rfl (xs:=([⟨#[98]⟩,⟨#[99]⟩,⟨#[100]⟩]:List ByteArray)) (inner:=[.string ⟨#[98]⟩,.string ⟨#[99]⟩,.string ⟨#[100]⟩]) (ok:=fun _=>True) (okp:=fun _=>True) ?hr ?hp (fun _ hk=>hk) trivial HP.out.bel HP.out.size (by simp) ?_
           case hr=>(go_simp;done)
           case hp=>exact Reps.one rfl (Reps.one rfl (Reps.one rfl (Reps.none _ _)))
           intro v_ w_ hR hB hg hn
           obtain ⟨adB_,cB_,e_⟩:=strR_ad hR (by decide)
           subst e_
           have HB:Aside0 (Kd.R Kd.string 9 w_ w.heap.size (fun _=>True) (.slice (some adB_) 3 cB_) ([⟨#[98]⟩,⟨#[99]⟩,⟨#[100]⟩]:List ByteArray)):=⟨hR⟩
           have hbl:=grown_below hg
           have HG:=Aside0.mk ((hbl.block g (blk_lt HG.out)).trans HG.out)
           have HP:=Aside0.mk (HP.out.below hbl)
           clear hR hB hg hn hbl
           refine hK.out _ _ trivial (fun hHeld=>?_)
           clear hK K
           refine norm_ (a':=?_) ?_ ?_
           rotate_left
           ·show Act.put _ (some 48) _ = _
            simp only [Act.put,sA,sB,sC,i64_w,i32_w]
            rfl
           refine pure_ (i:=6) (N:=some 51) (v:=?_) (a':=?_) (bm 383 12) rfl rfl (by kernel_rfl) (fun _ _ _ h=>h) (Or.inl ⟨by rfl,?_⟩) ?_ ?_
           rotate_left
           ·intro w'
            go_simp
            with_reducible rfl
           rotate_left
           ·simp only [Act.put,sA,sB,sC,i64_w,i32_w]
            rfl
           exact norm_ (by (simp only [putAll,Act.put,sA,sB,sC];rfl)) (hJ1_3_5 (adB_,cB_) _ ⟨HP.out,HG.out,HB.out⟩)
          ·skip
           have hs_:=(blk_cell HG.out 4).trans rfl
           have hf_:=blk_frozen HG.out 4
           refine skip_ (w1:=?_) (by rfl) rfl ?_ ?_
           rotate_left
           ·go_simp
            rfl
           have HG0:=HG
           have HG:=Aside0.mk (blk_put HG.out 4 (.int .i64 (d - 1)) #[.int .i64 (1 + (i:Int) * 2 + a),.int .i64 site,.int .i64 0,.int .i64 (1 + b),.int .i64 (d - 1),.string ⟨#[]⟩,.string ⟨#[]⟩,.string ⟨#[]⟩] rfl)
           have HP:=Aside0.mk (HP.out.set HG0.out HGL.out HGN.out 4 (.int .i64 (d - 1)))
           clear HG0 hs_ hf_
           refine hK.out _ _ trivial (fun hHeld=>?_)
           clear hK K
           exact norm_ (by (simp only [putAll,Act.put,sA,sB,sC];done)) (hJ1_5_9 () _ ⟨HP.out,HG.out⟩)
        ·skip
         rintro ⟨adB_,cB_⟩ w1_3_ ⟨hP_,hG_,hHB_⟩
         have HP:Aside0 (PaS w gd raw (rollU raw u3) v5 out w1_3_):=⟨hP_⟩
         have HG:Aside0 (w1_3_.heap[g]? = some (.cells #[.int .i64 (1 + (i:Int) * 2 + a),.int .i64 site,.int .i64 0,.int .i64 (1 + b),.int .i64 0,.string ⟨#[]⟩,.string ⟨#[]⟩,.string ⟨#[]⟩] 128 (0,0))):=⟨hG_⟩
         have HB:Aside0 (Kd.R Kd.string 9 w1_3_ w.heap.size (fun _=>True) (.slice (some adB_) 3 cB_) ([⟨#[98]⟩,⟨#[99]⟩,⟨#[100]⟩]:List ByteArray)):=⟨hHB_⟩
         clear hP_ hG_ hHB_
         have hHeld:True:=trivial
         refine norm_ (a':=?_) ?_ ?_
         rotate_left
         ·simp only [putAll,Act.put,sA,sB,sC]
          rfl
         refine one_ (i:=5) (N:=some 50) (bm 319 12) rfl rfl (by kernel_rfl) (by decide) (fun K hK=>?_)
         refine goes_ Try.func40 (by kernel_rfl) rfl #[.pointer (some ⟨gd,0,none⟩),.int .i64 3] (by rfl) rfl rfl (by simp only [List.map_toArray,List.map_cons,List.map_nil];rfl) ?_
         with_reducible refine (HP.out.roll_calls HUe.out HRe.out).mono ?_
         rintro e w_ ⟨rfl,hP,hfr,hsz⟩
         refine ⟨_,rfl,?_⟩
         have HG:=Aside0.mk ((hfr g _ 128 (by decide) HG.out).trans HG.out)
         have HB:=Aside0.mk (strR_move HB.out (fun k cells hc=>hfr k cells 9 (by decide) hc))
         have HP:=Aside0.mk hP
         clear hP hfr hsz
         refine hK.out _ _ trivial (fun hHeld=>?_)
         clear hK K
         refine norm_ (a':=?_) ?_ ?_
         rotate_left
         ·show Act.put _ (some 50) _ = _
          simp only [Act.put,sA,sB,sC,i64_w,i32_w]
          rfl
         refine pure_ (i:=6) (N:=some 51) (v:=?_) (a':=?_) (bm 383 12) rfl rfl (by kernel_rfl) (fun _ _ _ h=>h) (Or.inl ⟨by rfl,?_⟩) ?_ ?_
         rotate_left
         ·intro w'
          go_simp
          with_reducible rfl
         rotate_left
         ·simp only [Act.put,sA,sB,sC,i64_w,i32_w]
          rfl
         exact norm_ (by (simp only [putAll,Act.put,sA,sB,sC];done)) (hJ1_3_5 (adB_,cB_) _ ⟨HP.out,HG.out,HB.out⟩)
       ·skip
        rintro _ w1_5_9_ ⟨hP_,hG_⟩
        have HP:Aside0 (PaS w gd raw (rollU raw (rollU raw u3)) v5 out w1_5_9_):=⟨hP_⟩
        have HG:Aside0 (w1_5_9_.heap[g]? = some (.cells #[.int .i64 (1 + (i:Int) * 2 + a),.int .i64 site,.int .i64 0,.int .i64 (1 + b),.int .i64 (d - 1),.string ⟨#[]⟩,.string ⟨#[]⟩,.string ⟨#[]⟩] 128 (0,0))):=⟨hG_⟩
        clear hP_ hG_
        have hHeld:True:=trivial
        refine norm_ (a':=?_) ?_ ?_
        rotate_left
        ·simp only [putAll,Act.put,sA,sB,sC]
         rfl
        refine one_ (i:=3) (N:=some 48) (bm 831 12) rfl rfl (by kernel_rfl) (by decide) (fun K hK=>?_)
        refine Kd.R_lit_step Kd.string (w0:=w) w.heap.size 9 (by rfl) (N:=48) rfl (xs:=([⟨#[98]⟩,⟨#[99]⟩,⟨#[100]⟩]:List ByteArray)) (inner:=[.string ⟨#[98]⟩,.string ⟨#[99]⟩,.string ⟨#[100]⟩]) (ok:=fun _=>True) (okp:=fun _=>True) ?hr ?hp (fun _ hk=>hk) trivial HP.out.bel HP.out.size (by simp) ?_
        case hr=>(go_simp;done)
        case hp=>exact Reps.one rfl (Reps.one rfl (Reps.one rfl (Reps.none _ _)))
        intro v_ w_ hR hB hg hn
        obtain ⟨adB_,cB_,e_⟩:=strR_ad hR (by decide)
        subst e_
        have HB:Aside0 (Kd.R Kd.string 9 w_ w.heap.size (fun _=>True) (.slice (some adB_) 3 cB_) ([⟨#[98]⟩,⟨#[99]⟩,⟨#[100]⟩]:List ByteArray)):=⟨hR⟩
        have hbl:=grown_below hg
        have HG:=Aside0.mk ((hbl.block g (blk_lt HG.out)).trans HG.out)
        have HP:=Aside0.mk (HP.out.below hbl)
        clear hR hB hg hn hbl
        refine hK.out _ _ trivial (fun hHeld=>?_)
        clear hK K
        refine norm_ (a':=?_) ?_ ?_
        rotate_left
        ·show Act.put _ (some 48) _ = _
         simp only [Act.put,sA,sB,sC,i64_w,i32_w]
         rfl
        refine pure_ (i:=6) (N:=some 51) (v:=?_) (a':=?_) (bm 895 12) rfl rfl (by kernel_rfl) (fun _ _ _ h=>h) (Or.inl ⟨by rfl,?_⟩) ?_ ?_
        rotate_left
        ·intro w'
         go_simp
         with_reducible rfl
        rotate_left
        ·simp only [Act.put,sA,sB,sC,i64_w,i32_w]
         rfl
        exact norm_ (by (simp only [putAll,Act.put,sA,sB,sC];rfl)) (hJ1_3_5_9 (adB_,cB_) _ ⟨HP.out,HG.out,HB.out⟩)
      ·skip
       rintro ⟨adB_,cB_⟩ w1_3_5_ ⟨hP_,hG_,hHB_⟩
       have HP:Aside0 (PaS w gd raw (rollU raw (rollU raw u3)) v5 out w1_3_5_):=⟨hP_⟩
       have HG:Aside0 (w1_3_5_.heap[g]? = some (.cells #[.int .i64 (1 + (i:Int) * 2 + a),.int .i64 site,.int .i64 0,.int .i64 (1 + b),.int .i64 0,.string ⟨#[]⟩,.string ⟨#[]⟩,.string ⟨#[]⟩] 128 (0,0))):=⟨hG_⟩
       have HB:Aside0 (Kd.R Kd.string 9 w1_3_5_ w.heap.size (fun _=>True) (.slice (some adB_) 3 cB_) ([⟨#[98]⟩,⟨#[99]⟩,⟨#[100]⟩]:List ByteArray)):=⟨hHB_⟩
       clear hP_ hG_ hHB_
       have hHeld:True:=trivial
       refine norm_ (a':=?_) ?_ ?_
       rotate_left
       ·simp only [putAll,Act.put,sA,sB,sC]
        rfl
       refine two_ (i:=7) (j:=9) (Ni:=some 52) (Nj:=none) (bm 511 12) (bm 895 12) rfl rfl rfl rfl (by kernel_rfl) (by decide) (by decide) (fun K hK=>?_) (fun K hK=>?_)
       ·skip
        obtain ⟨ad',e_,hx⟩:=Kd.at_string (Kd.R_reads' HB.out).2.2 e HBe.out.1 (by have:=HBe.out.2;simp only [List.length_cons,List.length_nil];omega)
        cases e_
        replace hx:_ = some (Value.string (plS e)):=hx
        refine value_ (w1:=?_) (v:=?_) (by rfl) rfl ?_ ?_
        rotate_left 2
        ·go_simp
         constructor
         ·rfl
         ·rfl
        clear hx
        refine hK.out _ _ trivial (fun hHeld=>?_)
        clear hK K
        refine norm_ (a':=?_) ?_ ?_
        rotate_left
        ·show Act.put _ (some 52) _ = _
         simp only [Act.put,sA,sB,sC,i64_w,i32_w]
         rfl
        exact norm_ (by (simp only [putAll,Act.put,sA,sB,sC];done)) (hJ1_3_5_7 (adB_,cB_) _ ⟨HP.out,HG.out⟩)
       ·skip
        have hs_:=(blk_cell HG.out 4).trans rfl
        have hf_:=blk_frozen HG.out 4
        refine skip_ (w1:=?_) (by rfl) rfl ?_ ?_
        rotate_left
        ·go_simp
         rfl
        have HG0:=HG
        have HG:=Aside0.mk (blk_put HG.out 4 (.int .i64 (d - 1)) #[.int .i64 (1 + (i:Int) * 2 + a),.int .i64 site,.int .i64 0,.int .i64 (1 + b),.int .i64 (d - 1),.string ⟨#[]⟩,.string ⟨#[]⟩,.string ⟨#[]⟩] rfl)
        have HP:=Aside0.mk (HP.out.set HG0.out HGL.out HGN.out 4 (.int .i64 (d - 1)))
        have HB:=Aside0.mk (strR_set HB.out HG0.out (by decide) 4 (.int .i64 (d - 1)))
        clear HG0 hs_ hf_
        refine hK.out _ _ trivial (fun hHeld=>?_)
        clear hK K
        exact norm_ (by (simp only [putAll,Act.put,sA,sB,sC];done)) (hJ1_3_5_9 (adB_,cB_) _ ⟨HP.out,HG.out,HB.out⟩)
     ·skip
      rintro ⟨adB_,cB_⟩ w1_3_5_9_ ⟨hP_,hG_,hHB_⟩
      have HP:Aside0 (PaS w gd raw (rollU raw (rollU raw u3)) v5 out w1_3_5_9_):=⟨hP_⟩
      have HG:Aside0 (w1_3_5_9_.heap[g]? = some (.cells #[.int .i64 (1 + (i:Int) * 2 + a),.int .i64 site,.int .i64 0,.int .i64 (1 + b),.int .i64 (d - 1),.string ⟨#[]⟩,.string ⟨#[]⟩,.string ⟨#[]⟩] 128 (0,0))):=⟨hG_⟩
      have HB:Aside0 (Kd.R Kd.string 9 w1_3_5_9_ w.heap.size (fun _=>True) (.slice (some adB_) 3 cB_) ([⟨#[98]⟩,⟨#[99]⟩,⟨#[100]⟩]:List ByteArray)):=⟨hHB_⟩
      clear hP_ hG_ hHB_
      have hHeld:True:=trivial
      refine norm_ (a':=?_) ?_ ?_
      rotate_left
      ·simp only [putAll,Act.put,sA,sB,sC]
       rfl
      refine one_ (i:=7) (N:=some 52) (bm 1023 12) rfl rfl (by kernel_rfl) (by decide) (fun K hK=>?_)
      obtain ⟨ad',e_,hx⟩:=Kd.at_string (Kd.R_reads' HB.out).2.2 e HBe.out.1 (by have:=HBe.out.2;simp only [List.length_cons,List.length_nil];omega)
      cases e_
      replace hx:_ = some (Value.string (plS e)):=hx
      refine value_ (w1:=?_) (v:=?_) (by rfl) rfl ?_ ?_
      rotate_left 2
      ·go_simp
       constructor
       ·rfl
       ·rfl
      clear hx
      refine hK.out _ _ trivial (fun hHeld=>?_)
      clear hK K
      refine norm_ (a':=?_) ?_ ?_
      rotate_left
      ·show Act.put _ (some 52) _ = _
       simp only [Act.put,sA,sB,sC,i64_w,i32_w]
       rfl
      exact norm_ (by (simp only [putAll,Act.put,sA,sB,sC];done)) (hJ1_3_5_7_9 (adB_,cB_) _ ⟨HP.out,HG.out⟩)
    ·skip
     rintro ⟨adB_,cB_⟩ w1_3_5_7_ ⟨hP_,hG_⟩
     have HP:Aside0 (PaS w gd raw (rollU raw (rollU raw u3)) v5 out w1_3_5_7_):=⟨hP_⟩
     have HG:Aside0 (w1_3_5_7_.heap[g]? = some (.cells #[.int .i64 (1 + (i:Int) * 2 + a),.int .i64 site,.int .i64 0,.int .i64 (1 + b),.int .i64 0,.string ⟨#[]⟩,.string ⟨#[]⟩,.string ⟨#[]⟩] 128 (0,0))):=⟨hG_⟩
     clear hP_ hG_
     have hHeld:True:=trivial
     refine norm_ (a':=?_) ?_ ?_
     rotate_left
     ·simp only [putAll,Act.put,sA,sB,sC]
      rfl
     refine one_ (i:=9) (N:=none) (bm 1023 12) rfl rfl (by kernel_rfl) (by decide) (fun K hK=>?_)
     have hs_:=(blk_cell HG.out 4).trans rfl
     have hf_:=blk_frozen HG.out 4
     refine skip_ (w1:=?_) (by rfl) rfl ?_ ?_
     rotate_left
     ·go_simp
      rfl
     have HG0:=HG
     have HG:=Aside0.mk (blk_put HG.out 4 (.int .i64 (d - 1)) #[.int .i64 (1 + (i:Int) * 2 + a),.int .i64 site,.int .i64 0,.int .i64 (1 + b),.int .i64 (d - 1),.string ⟨#[]⟩,.string ⟨#[]⟩,.string ⟨#[]⟩] rfl)
     have HP:=Aside0.mk (HP.out.set HG0.out HGL.out HGN.out 4 (.int .i64 (d - 1)))
     clear HG0 hs_ hf_
     refine hK.out _ _ trivial (fun hHeld=>?_)
     clear hK K
     exact norm_ (by (simp only [putAll,Act.put,sA,sB,sC];done)) (hJ1_3_5_7_9 (adB_,cB_) _ ⟨HP.out,HG.out⟩)
   rintro ⟨adB_,cB_⟩ w1_3_5_7_9_ ⟨hP_,hG_⟩
   have HP:Aside0 (PaS w gd raw (rollU raw (rollU raw u3)) v5 out w1_3_5_7_9_):=⟨hP_⟩
   have HG:Aside0 (w1_3_5_7_9_.heap[g]? = some (.cells #[.int .i64 (1 + (i:Int) * 2 + a),.int .i64 site,.int .i64 0,.int .i64 (1 + b),.int .i64 (d - 1),.string ⟨#[]⟩,.string ⟨#[]⟩,.string ⟨#[]⟩] 128 (0,0))):=⟨hG_⟩
   clear hP_ hG_
   have hHeld:True:=trivial
   refine norm_ (a':=?_) ?_ ?_
   rotate_left
   ·simp only [putAll,Act.put,sA,sB,sC]
    rfl
   refine pure_ (i:=10) (N:=some 54) (v:=?_) (a':=?_) (bm 2047 12) rfl rfl (by kernel_rfl) (fun _ _ _ h=>h) (Or.inl ⟨by rfl,?_⟩) ?_ ?_
   rotate_left
   ·intro w'
    go_simp
    with_reducible rfl
   rotate_left
   ·simp only [Act.put,sA,sB,sC,i64_w,i32_w]
    rfl
   refine last_ (i:=11) (N:=none) (bm 4095 12) rfl rfl (by kernel_rfl) (by decide) (fun K hK=>?_)
   have hs_:=(blk_cell HG.out 5).trans rfl
   have hf_:=blk_frozen HG.out 5
   refine skip_ (w1:=?_) (by rfl) rfl ?_ ?_
   rotate_left
   ·go_simp
    rfl
   have HG0:=HG
   have HG:=Aside0.mk (blk_put HG.out 5 (.string (plS e)) #[.int .i64 (1 + (i:Int) * 2 + a),.int .i64 site,.int .i64 0,.int .i64 (1 + b),.int .i64 (d - 1),.string (plS e),.string ⟨#[]⟩,.string ⟨#[]⟩] rfl)
   have HP:=Aside0.mk (HP.out.set HG0.out HGL.out HGN.out 5 (.string (plS e)))
   clear HG0 hs_ hf_
   refine hK.out _ _ ?_
   clear hK K
   refine done_ (by kernel_rfl) ?_
   clear hHeld
   obtain ⟨w9,hw9⟩:∃ W,W = w1_3_5_7_9_.setCell ⟨g,5,none⟩ (.string (plS e)):=⟨_,rfl⟩
   rw [← hw9] at HP HG
   rw [← hw9]
   clear hw9
   have cg0:w9.cell? ⟨g,0,none⟩ = some (.int .i64 (1 + (i:Int) * 2 + a)):=(blk_cell HG.out 0).trans rfl
   have cg1:w9.cell? ⟨g,1,none⟩ = some (.int .i64 site):=(blk_cell HG.out 1).trans rfl
   have cg2:w9.cell? ⟨g,2,none⟩ = some (.int .i64 0):=(blk_cell HG.out 2).trans rfl
   have cg3:w9.cell? ⟨g,3,none⟩ = some (.int .i64 (1 + b)):=(blk_cell HG.out 3).trans rfl
   have cg4:w9.cell? ⟨g,4,none⟩ = some (.int .i64 (d - 1)):=(blk_cell HG.out 4).trans rfl
   have cg5:w9.cell? ⟨g,5,none⟩ = some (.string (plS e)):=(blk_cell HG.out 5).trans rfl
   have cg6:w9.cell? ⟨g,6,none⟩ = some (.string ⟨#[]⟩):=(blk_cell HG.out 6).trans rfl
   have cg7:w9.cell? ⟨g,7,none⟩ = some (.string ⟨#[]⟩):=(blk_cell HG.out 7).trans rfl
   go_wp2_with (at_builtin;refine Kd.R_append k128 (w0:=w) (W:=w9) w.heap.size rfl (.tmp 55) (.tmp 57) 65 128 (.agg #[(.int .i64 0),(.int .i64 0),(.int .i64 0),(.int .i64 0),(.int .i64 0),(.string ⟨#[]⟩),(.string ⟨#[]⟩),(.string ⟨#[]⟩)]) 88 rfl Try.underlying65 info128 rfl (by decide) (by decide) v5 out ⟨1 + (i:Int) * 2 + a,site,0,1 + b,d - 1,plS e,⟨#[]⟩,⟨#[]⟩⟩ [.int .i64 (1 + (i:Int) * 2 + a),.int .i64 site,.int .i64 0,.int .i64 (1 + b),.int .i64 (d - 1),.string (plS e),.string ⟨#[]⟩,.string ⟨#[]⟩] (fun _=>True) (fun _=>False) rfl rfl (k128_mkM _ _ _ ⟨1 + (i:Int) * 2 + a,site,0,1 + b,d - 1,plS e,⟨#[]⟩,⟨#[]⟩⟩) (fun _ hk=>hk.elim) (fun _ _=>trivial) HP.out.row HP.out.bel HP.out.size (by have h1:=HI.out.2.2;have h2:=HNI.out;omega) ?_;intro vn wn hR hB hg ha;have HPN:=Aside0.mk (HP.out.append hR hB hg);clear hR hB hg ha HP HG)
   have wk:=HWK.out
   go_roundg gl
   case measure=>omega
   case rel=>exact ⟨i + 1,_,vn,_,rfl,by simp [wk],⟨⟨by have:=HI.out;omega,HU5.out,by rw [List.length_append,HI.out.2.2];rfl⟩⟩,HLX,HPN⟩
end Go.Proofs.Ytlcodfjlbhjkbaa.PDelta
end
section
namespace Go.Proofs.Ytlcodfjlbhjkbaa.PDelta
open Go.Shelf Go.Lib
open Go.RowKit Go.Maps Go.Sort Go.Proofs.YtlcodfjlbhjkbaaW.PrintWords Go.Proofs.YtlcodfjlbhjkbaaW.PrintLast Go.Proofs.YtlcodfjlbhjkbaaW.PrintMore
def sortIt_ren:Go.Shelf.Ren:=⟨fun | 6=>109 | 15=>119 | 14=>142 | 28=>155 | 29=>156 | 20=>160 | 21=>161 | 22=>162 | 23=>163 | 24=>164 | 25=>165 | 26=>166 | 27=>167 | 46=>173 | 47=>169 | 48=>170 | 49=>174 | 50=>175 | 57=>177 | n=>n,fun | 22=>70 | 24=>87 | 25=>184 | 3=>3 | 39=>188 | 0=>0 | 53=>216 | 55=>218 | 4=>4 | 46=>209 | 45=>208 | 50=>213 | 5=>5 | 9=>9 | 66=>226 | 70=>230 | 76=>234 | 77=>110 | n=>n,fun n=>n⟩
theorem sortIt:SlLaysF0.n6 Try.prog sortIt_ren where
 mixed:=by kernel_rfl
 f6 := ⟨"slices.SortFunc[[]chancery/api.DrawItem,chancery/api.DrawItem]", by decide, Try.func109.trans (congrArg some (by kernel_rfl))⟩
 f14 := ⟨"slices.pdqsortCmpFunc[chancery/api.DrawItem]", by decide, Try.func142.trans (congrArg some (by kernel_rfl))⟩
 f15:=Try.func119.trans (congrArg some (by kernel_rfl))
 f20 := ⟨"slices.insertionSortCmpFunc[chancery/api.DrawItem]", by decide, Try.func160.trans (congrArg some (by kernel_rfl))⟩
 f21 := ⟨"slices.heapSortCmpFunc[chancery/api.DrawItem]", by decide, Try.func161.trans (congrArg some (by kernel_rfl))⟩
 f22 := ⟨"slices.breakPatternsCmpFunc[chancery/api.DrawItem]", by decide, Try.func162.trans (congrArg some (by kernel_rfl))⟩
 f23 := ⟨"slices.choosePivotCmpFunc[chancery/api.DrawItem]", by decide, Try.func163.trans (congrArg some (by kernel_rfl))⟩
 f24 := ⟨"slices.reverseRangeCmpFunc[chancery/api.DrawItem]", by decide, Try.func164.trans (congrArg some (by kernel_rfl))⟩
 f25 := ⟨"slices.partialInsertionSortCmpFunc[chancery/api.DrawItem]", by decide, Try.func165.trans (congrArg some (by kernel_rfl))⟩
 f26 := ⟨"slices.partitionEqualCmpFunc[chancery/api.DrawItem]", by decide, Try.func166.trans (congrArg some (by kernel_rfl))⟩
 f27 := ⟨"slices.partitionCmpFunc[chancery/api.DrawItem]", by decide, Try.func167.trans (congrArg some (by kernel_rfl))⟩
 f28:=Try.func155.trans (congrArg some (by kernel_rfl))
 f29:=Try.func156.trans (congrArg some (by kernel_rfl))
 f46 := ⟨"slices.siftDownCmpFunc[chancery/api.DrawItem]", by decide, Try.func173.trans (congrArg some (by kernel_rfl))⟩
 f47:=Try.func169.trans (congrArg some (by kernel_rfl))
 f48:=Try.func170.trans (congrArg some (by kernel_rfl))
 f49 := ⟨"slices.medianAdjacentCmpFunc[chancery/api.DrawItem]", by decide, Try.func174.trans (congrArg some (by kernel_rfl))⟩
 f50 := ⟨"slices.medianCmpFunc[chancery/api.DrawItem]", by decide, Try.func175.trans (congrArg some (by kernel_rfl))⟩
 f57 := ⟨"slices.order2CmpFunc[chancery/api.DrawItem]", by decide, Try.func177.trans (congrArg some (by kernel_rfl))⟩
 t0:=Try.underlying0
 a0:=Try.isAgg0
 z0:=Try.sizeOf0
 v0:=Try.zeroValue0
 t3:=Try.underlying3
 a3:=Try.isAgg3
 z3:=Try.sizeOf3
 v3:=Try.zeroValue3
 t4:=Try.underlying4
 a4:=Try.isAgg4
 z4:=Try.sizeOf4
 v4:=Try.zeroValue4
 t5:=Try.underlying5
 a5:=Try.isAgg5
 z5:=Try.sizeOf5
 v5:=Try.zeroValue5
 t9:=Try.underlying9
 a9:=Try.isAgg9
 z9:=Try.sizeOf9
 v9:=Try.zeroValue9
 t22:=Try.underlying70
 a22:=Try.isAgg70
 z22:=Try.sizeOf70
 v22:=Try.zeroValue70
 t25:=Try.underlying184
 a25:=Try.isAgg184
 z25:=Try.sizeOf184
 v25:=Try.zeroValue184
 t39:=Try.underlying188
 a39:=Try.isAgg188
 z39:=Try.sizeOf188
 v39:=Try.zeroValue188
 t45:=Try.underlying208
 a45:=Try.isAgg208
 z45:=Try.sizeOf208
 v45:=Try.zeroValue208
 t46:=Try.underlying209
 a46:=Try.isAgg209
 z46:=Try.sizeOf209
 v46:=Try.zeroValue209
 t50:=Try.underlying213
 a50:=Try.isAgg213
 z50:=Try.sizeOf213
 v50:=Try.zeroValue213
 t53:=Try.underlying216
 a53:=Try.isAgg216
 z53:=Try.sizeOf216
 v53:=Try.zeroValue216
 t55:=Try.underlying218
 a55:=Try.isAgg218
 z55:=Try.sizeOf218
 v55:=Try.zeroValue218
 t66:=Try.underlying226
 a66:=Try.isAgg226
 z66:=Try.sizeOf226
 v66:=Try.zeroValue226
 t70:=Try.underlying230
 a70:=Try.isAgg230
 z70:=Try.sizeOf230
 v70:=Try.zeroValue230
 t76:=Try.underlying234
 a76:=Try.isAgg234
 z76:=Try.sizeOf234
 v76:=Try.zeroValue234
 t77:=Try.underlying110
 a77:=Try.isAgg110
 z77:=Try.sizeOf110
 v77:=Try.zeroValue110
set_option maxHeartbeats 2000000 in
theorem insertNone (L:SlLaysF0.n20 Try.prog sortIt_ren) (p:Option Addr) (cap:Nat) (fv:Value) (w:World) :
 Calls Try.prog (sortIt_ren.f 20) #[.slice p 0 cap,.int .i64 0,.int .i64 0,fv] w fun e w'=>e = .returned (.tuple #[]) ∧ w' = w:=by
 go_enter Try.func160,Try.ntmps160
 go_wp2
 refine wp_loop_rounds 1 ?_
 rw [rounds_succ]
 go_wp2
 go_end0
 exact ⟨rfl,rfl⟩
set_option maxHeartbeats 2000000 in
theorem pdqNone (p:Option Addr) (cap:Nat) (lim:Int) (fv:Value) (w:World) :
 Calls Try.prog 142 #[.slice p 0 cap,.int .i64 0,.int .i64 0,.int .i64 lim,fv] w fun e w'=>e = .returned (.tuple #[]) ∧ w' = w:=by
 have hi:=fun W=>insertNone { sortIt with } p cap fv W
 change ∀ W,Calls Try.prog 160 _ _ _ at hi
 go_enter Try.func142,Try.ntmps142
 go_wp2
 refine wp_loop_rounds 1 ?_
 rw [rounds_succ]
 go_wp2_with (go_at_call 160;refine (hi _).mono ?_;rintro e w' ⟨rfl,rfl⟩)
 (try simp only [Exit.inBlock,Exit.then]);refine bodyPost_ret (results_none rfl _ _ _) rfl ?_
 exact ⟨rfl,rfl⟩
set_option maxHeartbeats 2000000 in
theorem sortNone (p:Option Addr) (cap:Nat) (fv:Value) (w:World) :
 Calls Try.prog 109 #[.slice p 0 cap,fv] w fun e w'=>e = .returned (.tuple #[]) ∧ w' = w:=by
 have hp:=fun lim W=>pdqNone p cap lim fv W
 have hl:∀ W,Calls Try.prog 119 #[.int .u64 0] W fun e w'=>e = .returned (.int .i64 (Lib.bitLen 0:Nat)) ∧ w' = W:=fun W=>by
  have h:=Any.bits_Len (SlLaysF0.n15.bits (P:=Try.prog) (ρ:=sortIt_ren) { sortIt with }) 0 W (by omega) (by omega)
  exact h
 go_enter Try.func109,Try.ntmps109
 go_wp2_with (first | (go_at_call 119;refine (hl _).mono ?_;rintro e w' ⟨rfl,rfl⟩) | (go_at_call 142;refine (hp _ _).mono ?_;rintro e w' ⟨rfl,rfl⟩))
 go_end0
 exact ⟨rfl,rfl⟩
theorem sortSome (g:Nat) (cf:It4 → It4 → Int) (hO:SWO (ltOf cf)) (eg:∀ args w,(callFunc g args).run Try.prog w = .ok (.enter g args) w)
 (hc:∀ x y W,Calls Try.prog g #[.agg (enc4 x).toArray,.agg (enc4 y).toArray] W fun e w'=>e = .returned (.int .i64 (cf x y)) ∧ Gr W w')
 (blk cap:Nat) (d:Array It4) (w:World) (hH:HoldsK enc4 4 w blk 0 d) (hblk:blk < w.heap.size) (hsz:d.size < 4611686018427387904) :
 Calls Try.prog 109 #[.slice (some ⟨blk,0,none⟩) d.size cap,.func (.func g) #[] #[]] w fun e w'=>e = .returned (.tuple #[]) ∧ ∃ d' n os,PermIn 0 d.size d d' ∧ SortedIn (ltOf cf) 0 d.size d' ∧ w' = sortWorldK enc4 4 w blk 0 n d' os:=by
 have hcon:=AnyQ.slices_SortFunc sortIt 4 Try.isAgg87 Try.sizeOf87 enc4 enc4_len enc4_one cf hO g #[] blk 0 cap d w eg (fun m os dk _ x y=>(hc x y _).mono fun e w' h=>⟨h.1,h.2.out⟩) hH hblk hsz
 exact hcon
theorem pairwise_of {lt:It4 → It4 → Bool} {d:Array It4} (h:SortedIn lt 0 d.size d):d.toList.Pairwise (fun x y=>lt y x = false):=by
 rw [List.pairwise_iff_getElem]
 intro i j hi hj hij
 have:=h i j (Nat.zero_le _) hij (by simpa using hj)
 rw [getElem!_pos d j (by simpa using hj),getElem!_pos d i (by simpa using hi)] at this
 simpa using this
theorem sort_calls (g:Nat) (cf:It4 → It4 → Int) (hO:SWO (ltOf cf)) (eg:∀ args w,(callFunc g args).run Try.prog w = .ok (.enter g args) w)
 (hc:∀ x y W,Calls Try.prog g #[.agg (enc4 x).toArray,.agg (enc4 y).toArray] W fun e w'=>e = .returned (.int .i64 (cf x y)) ∧ Gr W w')
 (v:Value) (base:Nat) (L:List It4) (w:World) (h:RowIs w base v L) (hl:L.length < 4611686018427387904) :
 Calls Try.prog 109 #[v,.func (.func g) #[] #[]] w fun e w'=>e = .returned (.tuple #[]) ∧ ∃ L',L'.Perm L ∧ L'.Pairwise (fun x y=>ltOf cf y x = false) ∧ RowIs w' base v L' ∧ w.grownBy w' v.ownBlock:=by
 rcases h.2 with ⟨h0,h1⟩ | ⟨blk,cap,cur,e,_,_,h1,_⟩
 ·subst h0
  have hL:L = []:=List.eq_nil_of_length_eq_zero h1
  subst hL
  refine (sortNone none 0 (.func (.func g) #[] #[]) w).mono ?_
  rintro e w' ⟨rfl,rfl⟩
  exact ⟨rfl,[],List.Perm.nil,List.Pairwise.nil,h,⟨rfl,rfl,rfl,Nat.le_refl _,fun _ _ _=>rfl⟩⟩
 ·subst e
  obtain ⟨hH,hb,hn⟩:=RowIs.holds h
  have hs:L.toArray.size = L.length:=by simp
  have hcon:=sortSome g cf hO eg hc blk cap L.toArray w hH hb (by rw [hs];exact hl)
  rw [hs] at hcon
  refine hcon.mono ?_
  rintro e w' ⟨rfl,d',n,os,hp,hsd,rfl⟩
  have hd:d'.size = L.length:=by rw [hp.1,hs]
  refine ⟨rfl,d'.toList,?_,pairwise_of (by rw [hd];exact hsd),RowIs.sorted h d' hd,?_⟩
  ·have h3:=hp.2.2
   rw [show L.length = d'.size from hd.symm] at h3
   have e1:(d'.extract 0 d'.size).toList = d'.toList:=by simp
   have e2:(L.toArray.extract 0 d'.size).toList = L:=by rw [hd];simp
   rwa [e1,e2] at h3
  ·exact sorted_grown d'
end Go.Proofs.Ytlcodfjlbhjkbaa.PDelta
end

/- Parts of the proof of Tree: nothing is claimed here by itself. -/
import Derived.Test.YtlcodfjlbhjkbaaKTree4
import Derived.StillTailTactics
import Derived.Laws.EntriesVeiled
set_option linter.unusedVariables false
set_option linter.unusedSimpArgs false
section
namespace Go.Proofs.Ytlcodfjlbhjkbaa.PDelta
open Go.RowKit Go.Maps Go.Sort Go.Proofs.YtlcodfjlbhjkbaaW.PrintWords Go.Proofs.YtlcodfjlbhjkbaaW.PrintLast Go.Proofs.YtlcodfjlbhjkbaaW.PrintMore
structure FrA (lo:Nat) (w w':World):Prop where
 bel:Below lo w w'
 at91:∀ (k:Nat) cells,w.heap[k]? = some (Obj.cells cells 91 (0,0)) → w'.heap[k]? = w.heap[k]?
theorem FrA.refl (lo:Nat) (w:World):FrA lo w w:=⟨Below.refl _ _,fun _ _ _=>rfl⟩
theorem FrA.trans {lo:Nat} {a b c:World} (h:FrA lo a b) (k:FrA lo b c):FrA lo a c:=⟨h.bel.trans k.bel,fun i cells hi=>(k.at91 i cells ((h.at91 i cells hi).trans hi)).trans (h.at91 i cells hi)⟩
theorem FrA.below {lo:Nat} {a b c:World} (h:FrA lo a b) (hlo:lo ≤ b.heap.size) (k:Below b.heap.size b c):FrA lo a c:=h.trans ⟨k.mono hlo,fun i cells hi=>k.block i (blk_lt hi)⟩
theorem FrA.grown {lo:Nat} {a b c:World} {row:Option Nat} (h:FrA lo a b) (k:b.grownBy c row) (hlo:lo ≤ b.heap.size) (h1:∀ i,row = some i → lo ≤ i ∧ ∀ cells,b.heap[i]? ≠ some (Obj.cells cells 91 (0,0))):FrA lo a c:=by
 refine h.trans ⟨(Below.refl lo b).grown k hlo (fun i hi=>(h1 i hi).1),fun i cells hi=>k.block i (blk_lt hi) (fun e=>(h1 i e.symm).2 cells hi)⟩
theorem FrA.set {lo:Nat} {a b:World} {g o:Nat} {c:Array Value} {t:TypeId} {fr:Nat × Nat} (h:FrA lo a b) (hg:b.heap[g]? = some (.cells c t fr)) (ht:t ≠ 91) (hlo:lo ≤ g) (u:Value):FrA lo a (b.setCell ⟨g,o,none⟩ u):=by
 refine h.trans ⟨(Below.refl lo b).setCell hlo _,fun i cells hi=>Below.heap_setCell b ⟨g,o,none⟩ u i (fun e=>?_)⟩
 simp only at e
 subst e
 rw [hg] at hi
 injection hi with hi
 injection hi with _ hi
 exact ht hi
theorem RowIs.fr {w:World} {base:Nat} {v:Value} {xs:List It4} (h:RowIs w base v xs) {lo:Nat} (hlo:lo ≤ base):∀ i,v.ownBlock = some i → lo ≤ i ∧ ∀ cells,w.heap[i]? ≠ some (Obj.cells cells 91 (0,0)):=by
 intro i hi
 obtain ⟨h1,_,cur,hc⟩:=h.cells hi
 refine ⟨Nat.le_trans hlo h1,fun cells e=>?_⟩
 rw [hc] at e
 injection e with e
 injection e with _ e
 exact absurd e (by decide)
theorem map_fr {w:World} {m:Nat} {es:Array MapEntry} {c lo:Nat} (h:w.heap[m]? = some (.map es c)) (hlo:lo ≤ m):∀ i,some m = some i → lo ≤ i ∧ ∀ cells,w.heap[i]? ≠ some (Obj.cells cells 91 (0,0)):=by
 intro i hi
 cases hi
 exact ⟨hlo,fun cells e=>by rw [h] at e;cases e⟩
theorem RowIs.at {w:World} {base n c:Nat} {A:Option Addr} {L:List It4} (h:RowIs w base (.slice A n c) L) (i:Nat) (hi:i < L.length):∃ ad,A = some ad ∧ w.cell? (ad.add (i * 4)) = some (.int .i64 (L[i]'hi).i) ∧ w.cell? ⟨(ad.add (i * 4)).block,(ad.add (i * 4)).off + 1,none⟩ = some (.int .i64 (L[i]'hi).p) ∧ w.cell? ⟨(ad.add (i * 4)).block,(ad.add (i * 4)).off + 2,none⟩ = some (.string (L[i]'hi).s) ∧ w.cell? ⟨(ad.add (i * 4)).block,(ad.add (i * 4)).off + 3,none⟩ = some (.slice (L[i]'hi).A (L[i]'hi).n (L[i]'hi).c):=by
 rcases h.2 with ⟨h0,h1⟩ | ⟨g,cap,cur,e,hb,hh,h1,h2,h3,h4⟩
 ·omega
 ·injection e with e1 e2 e3
  subst e1 e2 e3
  have hc:=World.ownsRow.cells h (g:=g) rfl
  have hf:∀ j,j < 4 → (L.flatMap enc4)[i * 4 + j]? = some ((enc4 (L[i]'hi))[j]!):=fun j hj=>by
   rw [flat_get L (i * 4 + j) (by omega)]
   have e1:(i * 4 + j) / 4 = i:=by omega
   have e2:(i * 4 + j) % 4 = j:=by omega
   rw [e1,e2,getElem!_pos L i hi]
  have key:∀ j,j < 4 → w.cell? ((⟨g,0,none⟩:Addr).add (i * 4 + j)) = some ((enc4 (L[i]'hi))[j]!):=fun j hj=>hc (i * 4 + j) _ (hf j hj)
  exact ⟨⟨g,0,none⟩,rfl,key 0 (by omega),by rw [← add_field _ _ 1 (by omega)];exact key 1 (by omega),by rw [← add_field _ _ 2 (by omega)];exact key 2 (by omega),by rw [← add_field _ _ 3 (by omega)];exact key 3 (by omega)⟩
theorem swoP:SWO (ltOf cmpP):=⟨fun x=>lt2_irrefl x.s x.i,fun x y z h k=>lt2_trans (s:=x.s) (t:=y.s) (u:=z.s) h k,fun x y z h k=>lt2_ntrans (s:=x.s) (t:=y.s) (u:=z.s) h k⟩
theorem cmpI_lt (a b:Int):decide (cmpI a b < 0) = decide (a < b):=by
 unfold cmpI
 by_cases h:a < b
 ·simp [h]
 ·rw [if_neg h];split <;> simp [h]
theorem swoN:SWO (ltOf cmpN):=by
 have e:ltOf cmpN = fun x y=>decide (x.i < y.i):=by
  funext x y
  exact cmpI_lt x.i y.i
 rw [e]
 refine ⟨fun x=>?_,fun x y z h k=>?_,fun x y z h k=>?_⟩
 ·exact decide_eq_false (by omega)
 ·have h:=of_decide_eq_true h
  have k:=of_decide_eq_true k
  exact decide_eq_true (by omega)
 ·have h:=of_decide_eq_false h
  have k:=of_decide_eq_false k
  exact decide_eq_false (by omega)
theorem sorted_kids {b:Brd} (hB:BOK b) (sl:Int → Option Addr × Nat × Nat) {p:Int} {L0:List S87} {L1:List It4} (h0:L0.Perm (kidsL b p)) (h1:L1.Perm (L0.map (mk4 sl))) (hs:L1.Pairwise (fun x y=>ltOf cmpP y x = false)):L1 = (kidsF b p).map (mk4 sl):=by
 have hm:=(h0.trans (kids_perm b p).symm).map (mk4 sl)
 refine sorted_one (lt:=ltOf cmpP) (h1.trans hm) hs ?_ ?_
 ·rw [List.pairwise_map]
  exact kids_sorted b p
 ·intro x hx y hy e1 e2
  obtain ⟨x',hx',rfl⟩:=List.mem_map.1 hx
  obtain ⟨y',hy',rfl⟩:=List.mem_map.1 hy
  have h3:=(lt2_total (s:=x'.f2) (t:=y'.f2) (i:=x'.f0) (j:=y'.f0) e1 e2).2
  have h4:=hB.it_of (kids_mem.1 hx').1
  rw [h3,hB.it_of (kids_mem.1 hy').1] at h4
  cases h4
  rfl
theorem rowSnoc {w:World} {base:Nat} {vn:Value} {out:List S87} {sl:Int → Option Addr × Nat × Nat} {x:S87} {A:Option Addr} {n c:Nat} (hs:mk4 sl x = ⟨x.f0,x.f1,x.f2,A,n,c⟩) (h:w.ownsRow base 87 4 vn ((out.map (mk4 sl)).length + 1) ((out.map (mk4 sl)).flatMap enc4 ++ [.int .i64 x.f0,.int .i64 x.f1,.string x.f2,.slice A n c])):RowIs w base vn ((out ++ [x]).map (mk4 sl)):=by
 unfold RowIs
 rw [List.map_append,List.flatMap_append,List.length_append,List.map_cons,List.map_nil,hs]
 exact h
theorem zero70 (w:World):(zeroValue 70).run Try.prog w = .ok (.slice none 0 0) w:=by kernel_rfl
theorem info87i:(Try.prog.info? 87).map (fun i=>(i.zero,i.size,i.bytes)) = some (some (.agg #[.int .i64 0,.int .i64 0,.string ⟨#[]⟩,.slice none 0 0]),4,56):=by kernel_rfl
def WalkE (base K Kb Ob Sb Wb Sm nk lo:Nat) (gm:Int → Option Value) (sl:Int → Option Addr × Nat × Nat) (b:Brd) (va:Value) (D:List S87) (done:Int → Prop) (w:World) (out:List S87) (e:Ending) (w':World):Prop :=
 e = .returned (.tuple #[]) ∧ ∃ (done':Int → Prop) (vo:Value) (gs:Int → Option Value),(∀ q,done q → done' q) ∧ WalkS base K Kb Ob Sb Wb Sm nk gm sl b va D done' w' vo out gs ∧ FrA lo w w'
section
variable {base K Kb Ob Sb Wb Sm nk lo:Nat} {gm:Int → Option Value} {sl:Int → Option Addr × Nat × Nat} {b:Brd} {va:Value} {D:List S87}
set_option maxRecDepth 100000 in
set_option maxHeartbeats 4000000 in
theorem walk_calls (hlo:lo ≤ base) (hB:BOK b) (hWf:∀ x ∈ b.its,(Lit.int .i64 x.f0).wf = true) (k:Nat):∀ (p:Int) (out out':List S87) (w:World) (done:Int → Prop) (vo:Value) (gs:Int → Option Value),(Lit.int .i64 p).wf = true → lo ≤ w.heap.size → b.its.length ≤ 1073741824 →
 WalkS base K Kb Ob Sb Wb Sm nk gm sl b va D done w vo out gs → visitF k b p out = some out' →
 Calls Try.prog 108 #[.int .i64 p,.pointer (some ⟨Kb,0,none⟩),.pointer (some ⟨Ob,0,none⟩),.pointer (some ⟨Sb,0,none⟩),.pointer (some ⟨Wb,0,none⟩)] w (WalkE base K Kb Ob Sb Wb Sm nk lo gm sl b va D done w out'):=by
 have HBK:=Aside0.mk hB
 have HWF:=Aside0.mk hWf
 have HLO:=Aside0.mk hlo
 clear hB hWf hlo
 induction k with
 | zero=>intro p out out' w done vo gs _ _ _ _ h;cases h
 | succ k ih =>
  intro p out out' w done vo gs hp hws hbl hW hv
  have HIH:=Aside0.mk ih
  obtain ⟨L0,hL0,_,hr0⟩:=hW.kids p
  have hlen:L0.length = (kidsF b p).length:=(hL0.trans (kids_perm b p).symm).length_eq
  obtain ⟨A,c,hvs,hc⟩:=hr0.slice
  rw [List.length_map,hlen] at hvs hc
  have hkl:(kidsF b p).length ≤ 1073741824:=by
   have h1:=(kids_perm b p).length_eq
   have h2:(kidsL b p).length ≤ b.its.length:=List.length_filter_le _ _
   omega
  obtain ⟨n,hn⟩:∃ n,n = (kidsF b p).length:=⟨_,rfl⟩
  rw [← hn] at hvs hc
  rw [hvs] at hr0
  have HE:=Aside0.mk hvs
  have HS:Aside0 (Calls Try.prog 109 #[.slice A n c,.func (.func 110) #[] #[]] w fun e w'=>e = .returned (.tuple #[]) ∧ WalkS base K Kb Ob Sb Wb Sm nk gm sl b va D (fun q=>done q ∨ q = p) w' vo out gs ∧ FrA lo w w'):=by
   refine ⟨(sort_calls 110 cmpP swoP (enters_of Try.func110 (by kernel_rfl) rfl) cmpp_calls _ base _ w hr0 (by rw [List.length_map,hlen];omega)).mono ?_⟩
   rintro e w' ⟨rfl,L1,h1,h2,h3,h4⟩
   obtain rfl:=sorted_kids HBK.out sl hL0 h1 h2
   rw [← hvs] at h3 h4
   refine ⟨rfl,hW.sorted p h4 h3 (kids_perm b p),(FrA.refl lo w).grown h4 hws ?_⟩
   rw [hvs]
   exact hr0.fr HLO.out
  have HW:=Aside0.mk hW
  have HBL:=Aside0.mk hbl
  have HP:=Aside0.mk hp
  have HWS:=Aside0.mk hws
  have HN:Aside0 (n = (kidsF b p).length ∧ n ≤ c ∧ n ≤ 1073741824):=⟨hn,hc,by omega⟩
  have HV:Aside0 ((kidsF b p).foldlM (fun o x=>if o.length ≤ 1073741824 then visitF k b x.f0 (o ++ [x]) else none) out = some out'):=⟨by unfold visitF at hv;exact hv⟩
  have ckb:w.cell? ⟨Kb,0,none⟩ = some (.map (some K)):=(blk_cell hW.kb 0).trans rfl
  clear hL0 hr0 hlen hvs hc hkl hn hW hp hws hv hbl ih
  go_enter Try.func108,Try.ntmps108
  go_upto_region 1 with (first | (at_lookup;refine wp_look _ rfl _ _ 179 70 rfl Try.underlying179 _ (zero70 _) K nk gm rfl HW.out.mK p rfl HP.out _ HE.out ?_) | (go_at_call 109;(with_reducible refine HS.out.mono ?_);rintro e1 w1 ⟨rfl,hW1,hF1⟩;have HW1:=Aside0.mk hW1;have HF1:=Aside0.mk hF1;have ckb1:w1.cell? ⟨Kb,0,none⟩ = some (.map (some K)):=(blk_cell hW1.kb 0).trans rfl;clear hW1 hF1))
  go_wp2_with (at_lookup;refine wp_look _ rfl _ _ 179 70 rfl Try.underlying179 _ (zero70 _) K nk gm rfl HW1.out.mK p rfl HP.out _ HE.out ?_)
  clear ckb ckb1
  go_loopg [16] n (fun m v16 wr=>∃ (i:Nat) (done1:Int → Prop) (out1:List S87) (vo1:Value) (gs1:Int → Option Value),v16 = .int .i64 (i:Int) ∧ Aside0 (m + i = n) ∧ Aside0 (((kidsF b p).drop i).foldlM (fun o x=>if o.length ≤ 1073741824 then visitF k b x.f0 (o ++ [x]) else none) out1 = some out') ∧ Aside0 (∀ q,(done q ∨ q = p) → done1 q) ∧ Aside0 (WalkS base K Kb Ob Sb Wb Sm nk gm sl b va D done1 wr vo1 out1 gs1) ∧ Aside0 (FrA lo w wr))
  case atStart=>exact ⟨0,_,_,_,_,rfl,⟨rfl⟩,HV,⟨fun q h=>h⟩,HW1,HF1⟩
  case round =>
   obtain ⟨i,done1,out1,vo1,gs1,rfl,HI,HV1,HD1,HW2,HF2⟩:=hrel
   clear HV HW1 HF1 HS HW
   by_cases d1:i < n
   rotate_left
   ·have g1:decide ((i:Int) < (n:Int)) = false:=decide_eq_false (by omega)
    have g1':decide (i < n) = false:=decide_eq_false d1
    have HX:Aside0 (out1 = out'):=⟨by have h1:=HV1.out;rw [List.drop_eq_nil_of_le (by have:=HN.out.1;omega)] at h1;exact Option.some.inj h1⟩
    clear d1
    go_wp2
    go_end0
    exact ⟨rfl,done1,vo1,gs1,fun q h=>HD1.out q (.inl h),by rw [← HX.out];exact HW2.out,HF2.out⟩
   have g1:decide ((i:Int) < (n:Int)) = true:=decide_eq_true (by omega)
   have g1':decide (i < n) = true:=decide_eq_true d1
   have q1:(i:Int) < (n:Int):=by omega
   obtain ⟨gl,rfl⟩:∃ gl,gk = gl + 1:=⟨gk - 1,by have:=HI.out;omega⟩
   have hil:i < (kidsF b p).length:=by have:=HN.out.1;omega
   obtain ⟨x,hx⟩:∃ x,x = (kidsF b p)[i]'hil:=⟨_,rfl⟩
   have HXM:=Aside0.mk (kids_mem.1 (hx ▸ List.getElem_mem hil))
   have hv1:=HV1.out
   rw [List.drop_eq_getElem_cons hil,← hx,List.foldlM_cons] at hv1
   obtain ⟨out2,ho2,hv2⟩:=Option.bind_eq_some_iff.1 hv1
   have hol:out1.length ≤ 1073741824:=by
    by_cases h:out1.length ≤ 1073741824
    ·exact h
    ·rw [if_neg h] at ho2;cases ho2
   rw [if_pos hol] at ho2
   have HO2:=Aside0.mk ho2
   have HV2:=Aside0.mk hv2
   have HOL:=Aside0.mk hol
   obtain ⟨L,hL,hLd,hLr⟩:=HW2.out.kids p
   obtain rfl:=hLd (HD1.out p (.inr rfl))
   rw [HE.out] at hLr
   obtain ⟨ad,eA,x0,x1,x2,x3⟩:=hLr.at i (by rw [List.length_map];exact hil)
   subst eA
   have hxe:((kidsF b p).map (mk4 sl))[i]'(by rw [List.length_map];exact hil) = mk4 sl x:=by rw [List.getElem_map,← hx]
   rw [hxe] at x0 x1 x2 x3
   replace x0:wr.cell? (ad.add (i * 4)) = some (.int .i64 x.f0):=x0
   replace x1:wr.cell? ⟨(ad.add (i * 4)).block,(ad.add (i * 4)).off + 1,none⟩ = some (.int .i64 x.f1):=x1
   replace x2:wr.cell? ⟨(ad.add (i * 4)).block,(ad.add (i * 4)).off + 2,none⟩ = some (.string x.f2):=x2
   obtain ⟨SA,hSA⟩:∃ S,S = (mk4 sl x).A:=⟨_,rfl⟩
   obtain ⟨Sn,hSn⟩:∃ S,S = (mk4 sl x).n:=⟨_,rfl⟩
   obtain ⟨Sc,hSc⟩:∃ S,S = (mk4 sl x).c:=⟨_,rfl⟩
   have HSL:Aside0 (mk4 sl x = ⟨x.f0,x.f1,x.f2,SA,Sn,Sc⟩):=⟨by rw [hSA,hSn,hSc];rfl⟩
   rw [← hSA,← hSn,← hSc] at x3
   clear hx hv1 ho2 hv2 hol hL hLd hLr hxe hSA hSn hSc HV1 hil
   go_upto_region 4 with (fail)
   obtain ⟨w2,hw2⟩:∃ W,W = wr.alloc (Obj.cells #[.int .i64 x.f0,.int .i64 x.f1,.string x.f2,.slice SA Sn Sc] 87):=⟨_,rfl⟩
   obtain ⟨g,hgn⟩:∃ g,g = wr.heap.size:=⟨_,rfl⟩
   have HLW:Aside0 (lo ≤ w2.drew.heap.size):=⟨by rw [hw2];have:=HF2.out.bel.size;have:=HWS.out;simp;omega⟩
   have HG1:Aside0 (w2.drew.heap[g]? = some (.cells #[.int .i64 x.f0,.int .i64 x.f1,.string x.f2,.slice SA Sn Sc] 87 (0,0))):=⟨by rw [hw2,hgn];exact blk_drew (blk_new wr _)⟩
   have HW3:Aside0 (WalkS base K Kb Ob Sb Wb Sm nk gm sl b va D done1 w2.drew vo1 out1 gs1):=⟨by rw [hw2];exact HW2.out.below (below_drew (below_alloc (Below.refl _ _) _))⟩
   have HF3:Aside0 (FrA lo w w2.drew):=⟨by rw [hw2];exact HF2.out.below (Nat.le_trans HWS.out HF2.out.bel.size) (below_drew (below_alloc (Below.refl _ _) _))⟩
   have HNG:Aside0 (vo1.ownBlock ≠ some g):=⟨fun e=>by have:=(HW2.out.ro.cells e).2.1;omega⟩
   have HBW:Aside0 (base ≤ w2.drew.heap.size):=⟨by have:=HW3.out.lO;have:=blk_lt HW3.out.ob;omega⟩
   rw [← hw2,← hgn]
   clear hw2 hgn HW2 HF2 x0 x1 x2 x3
   refine start_ (n:=9) (S:=fun w'=>w'.cell? ⟨Sb,0,none⟩ = some (.map (some Sm)) ∧ w'.cell? ⟨g,0,none⟩ = some (.int .i64 x.f0) ∧ w'.cell? ⟨g,1,none⟩ = some (.int .i64 x.f1) ∧ w'.cell? ⟨g,2,none⟩ = some (.string x.f2) ∧ w'.cell? ⟨g,3,none⟩ = some (.slice SA Sn Sc)) (ds:=[8]) #[false,false,false,false,false,false,false,false,false] (by kernel_rfl) rfl rfl ⟨((blk_cell HW3.out.sb 0).trans rfl),((blk_cell HG1.out 0).trans rfl),((blk_cell HG1.out 1).trans rfl),((blk_cell HG1.out 2).trans rfl),((blk_cell HG1.out 3).trans rfl)⟩ (fun hHeld=>?_)
   refine pure_ (i:=1) (N:=some 21) (v:=?_) (a':=?_) (bm 2 9) rfl rfl (by kernel_rfl) (fun _ _ _ h=>h) (Or.inl ⟨by rfl,?_⟩) ?_ ?_
   rotate_left
   ·intro w'
    go_simp
    with_reducible rfl
   rotate_left
   ·simp only [Act.put,sA,sB,sC,i64_w,i32_w]
    rfl
   refine take_ (i:=0) (N:=some 20) (v:=?_) (a':=?_) (bm 3 9) rfl rfl (by kernel_rfl) (fun _ _ _ h=>h) (Or.inl ⟨by rfl,?_⟩) hHeld ?_ ?_
   rotate_left
   ·rintro w' ⟨s0,s1,s2,s3,s4⟩
    go_simp
    with_reducible rfl
   rotate_left
   ·simp only [Act.put,sA,sB,sC,i64_w,i32_w]
    rfl
   refine take_ (i:=2) (N:=some 22) (v:=?_) (a':=?_) (bm 7 9) rfl rfl (by kernel_rfl) (fun _ _ _ h=>h) (Or.inl ⟨by rfl,?_⟩) hHeld ?_ ?_
   rotate_left
   ·rintro w' ⟨s0,s1,s2,s3,s4⟩
    go_simp
    with_reducible rfl
   rotate_left
   ·simp only [Act.put,sA,sB,sC,i64_w,i32_w]
    rfl
   refine take_ (i:=4) (N:=some 24) (v:=?_) (a':=?_) (bm 23 9) rfl rfl (by kernel_rfl) (fun _ _ _ h=>h) (Or.inl ⟨by rfl,?_⟩) hHeld ?_ ?_
   rotate_left
   ·rintro w' ⟨s0,s1,s2,s3,s4⟩
    go_simp
    with_reducible rfl
   rotate_left
   ·simp only [Act.put,sA,sB,sC,i64_w,i32_w]
    rfl
   refine join_ (σ:=Unit) 3 (bm 63 9) (fun _=>[(23,vo1),(25,.slice (some ⟨w2.heap.size,0,none⟩) 1 1)]) (fun _ w'=>w' = (w2.drew.alloc (Obj.cells #[.int .i64 x.f0,.int .i64 x.f1,.string x.f2,.slice SA Sn Sc] 87))) ?_ ?_
   rotate_left
   ·intro hCont
    refine two_ (i:=3) (j:=5) (Ni:=some 23) (Nj:=some 25) (bm 31 9) (bm 55 9) rfl rfl rfl rfl (by kernel_rfl) (by decide) (by decide) (fun K hK=>?_) (fun K hK=>?_)
    ·skip
     have cob:w2.drew.cell? ⟨Ob,0,none⟩ = some vo1:=(blk_cell HW3.out.ob 0).trans rfl
     refine value_ (w1:=?_) (v:=?_) (by rfl) rfl ?_ ?_
     rotate_left 2
     ·go_simp
      constructor
      ·rfl
      ·rfl
     clear cob
     refine hK.out _ _ ⟨((blk_cell HW3.out.sb 0).trans rfl),((blk_cell HG1.out 0).trans rfl),((blk_cell HG1.out 1).trans rfl),((blk_cell HG1.out 2).trans rfl),((blk_cell HG1.out 3).trans rfl)⟩ (fun hHeld=>?_)
     clear hK K
     refine norm_ (a':=?_) ?_ ?_
     rotate_left
     ·show Act.put _ (some 23) _ = _
      simp only [Act.put,sA,sB,sC,i64_w,i32_w]
      rfl
     refine one_ (i:=5) (N:=some 25) (bm 63 9) rfl rfl (by kernel_rfl) (by decide) (fun K hK=>?_)
     refine value_ (w1:=?_) (v:=?_) (by rfl) rfl ?_ ?_
     rotate_left 2
     ·go_simp
      constructor
      ·rfl
      ·rfl
     refine hK.out _ _ ⟨((blk_cell (HW3.out.below (below_alloc (Below.refl _ _) _)).sb 0).trans rfl),((blk_cell (blk_alloc HG1.out _) 0).trans rfl),((blk_cell (blk_alloc HG1.out _) 1).trans rfl),((blk_cell (blk_alloc HG1.out _) 2).trans rfl),((blk_cell (blk_alloc HG1.out _) 3).trans rfl)⟩ (fun hHeld=>?_)
     clear hK K
     refine norm_ (a':=?_) ?_ ?_
     rotate_left
     ·show Act.put _ (some 25) _ = _
      simp only [Act.put,sA,sB,sC,i64_w,i32_w]
      rfl
     exact norm_ (by simp only [putAll,Act.put,sA,sB,sC]) (hCont () _ rfl)
    ·skip
     refine value_ (w1:=?_) (v:=?_) (by rfl) rfl ?_ ?_
     rotate_left 2
     ·go_simp
      constructor
      ·rfl
      ·rfl
     refine hK.out _ _ ⟨((blk_cell (HW3.out.below (below_alloc (Below.refl _ _) _)).sb 0).trans rfl),((blk_cell (blk_alloc HG1.out _) 0).trans rfl),((blk_cell (blk_alloc HG1.out _) 1).trans rfl),((blk_cell (blk_alloc HG1.out _) 2).trans rfl),((blk_cell (blk_alloc HG1.out _) 3).trans rfl)⟩ (fun hHeld=>?_)
     clear hK K
     refine norm_ (a':=?_) ?_ ?_
     rotate_left
     ·show Act.put _ (some 25) _ = _
      simp only [Act.put,sA,sB,sC,i64_w,i32_w]
      rfl
     refine one_ (i:=3) (N:=some 23) (bm 63 9) rfl rfl (by kernel_rfl) (by decide) (fun K hK=>?_)
     have cob:w2.drew.cell? ⟨Ob,0,none⟩ = some vo1:=(blk_cell HW3.out.ob 0).trans rfl
     have cob2:(w2.alloc (Obj.cells #[.int .i64 x.f0,.int .i64 x.f1,.string x.f2,.slice SA Sn Sc] 87)).cell? ⟨Ob,0,none⟩ = some vo1:=(blk_cell (blk_alloc HW3.out.ob _) 0).trans rfl
     refine value_ (w1:=?_) (v:=?_) (by rfl) rfl ?_ ?_
     rotate_left 2
     ·go_simp
      constructor
      ·rfl
      ·rfl
     clear cob
     clear cob2
     refine hK.out _ _ ⟨((blk_cell (HW3.out.below (below_alloc (Below.refl _ _) _)).sb 0).trans rfl),((blk_cell (blk_alloc HG1.out _) 0).trans rfl),((blk_cell (blk_alloc HG1.out _) 1).trans rfl),((blk_cell (blk_alloc HG1.out _) 2).trans rfl),((blk_cell (blk_alloc HG1.out _) 3).trans rfl)⟩ (fun hHeld=>?_)
     clear hK K
     refine norm_ (a':=?_) ?_ ?_
     rotate_left
     ·show Act.put _ (some 23) _ = _
      simp only [Act.put,sA,sB,sC,i64_w,i32_w]
      rfl
     exact norm_ (by simp only [putAll,Act.put,sA,sB,sC]) (hCont () _ rfl)
   rintro _ w5 hw5
   subst hw5
   have hHeld:(w2.drew.alloc (Obj.cells #[.int .i64 x.f0,.int .i64 x.f1,.string x.f2,.slice SA Sn Sc] 87)).cell? ⟨Sb,0,none⟩ = some (.map (some Sm)) ∧ (w2.drew.alloc (Obj.cells #[.int .i64 x.f0,.int .i64 x.f1,.string x.f2,.slice SA Sn Sc] 87)).cell? ⟨g,0,none⟩ = some (.int .i64 x.f0) ∧ (w2.drew.alloc (Obj.cells #[.int .i64 x.f0,.int .i64 x.f1,.string x.f2,.slice SA Sn Sc] 87)).cell? ⟨g,1,none⟩ = some (.int .i64 x.f1) ∧ (w2.drew.alloc (Obj.cells #[.int .i64 x.f0,.int .i64 x.f1,.string x.f2,.slice SA Sn Sc] 87)).cell? ⟨g,2,none⟩ = some (.string x.f2) ∧ (w2.drew.alloc (Obj.cells #[.int .i64 x.f0,.int .i64 x.f1,.string x.f2,.slice SA Sn Sc] 87)).cell? ⟨g,3,none⟩ = some (.slice SA Sn Sc):=⟨((blk_cell (HW3.out.below (below_alloc (Below.refl _ _) _)).sb 0).trans rfl),((blk_cell (blk_alloc HG1.out _) 0).trans rfl),((blk_cell (blk_alloc HG1.out _) 1).trans rfl),((blk_cell (blk_alloc HG1.out _) 2).trans rfl),((blk_cell (blk_alloc HG1.out _) 3).trans rfl)⟩
   refine norm_ (a':=?_) ?_ ?_
   rotate_left
   ·simp only [putAll,Act.put,sA,sB,sC]
    rfl
   refine one_ (i:=6) (N:=some 26) (bm 127 9) rfl rfl (by kernel_rfl) (by decide) (fun K hK=>?_)
   refine step_append_cells (P:=Try.prog) (w0:=w2.drew) (W:=w2.drew) base (by rfl) (.tmp 23) (.tmp 25) 70 87 (.agg #[.int .i64 0,.int .i64 0,.string ⟨#[]⟩,.slice none 0 0]) 4 56 rfl Try.underlying70 info87i rfl (by decide) (by decide) vo1 (out1.map (mk4 sl)).length ((out1.map (mk4 sl)).flatMap enc4) [.int .i64 x.f0,.int .i64 x.f1,.string x.f2,.slice SA Sn Sc] rfl rfl rfl (by simp [Value.oneCell']) HW3.out.ro (Below.refl _ _) HBW.out (by have:=HOL.out;rw [List.length_map];omega) ?_
   intro vn w6 hr6 hb6 hg6 ha6
   have hR:RowIs w6 base vn ((out1 ++ [x]).map (mk4 sl)):=rowSnoc HSL.out hr6
   obtain ⟨AV,nv,cv,ev⟩:∃ A m c,vn = .slice A m c:=by obtain ⟨A,c,e,_⟩:=hR.slice;exact ⟨A,_,c,e⟩
   subst ev
   have HWA:=Aside0.mk (HW3.out.append hR hg6 ha6)
   have HG6:=Aside0.mk ((hg6.block g (blk_lt HG1.out) (fun e=>HNG.out e.symm)).trans HG1.out)
   have HF6:=Aside0.mk (HF3.out.grown hg6 HLW.out (HW3.out.ro.fr HLO.out))
   have HL6:=Aside0.mk (Nat.le_trans HLW.out hg6.size)
   clear hr6 hb6 hg6 ha6 hR HG1 HF3 HW3
   refine hK.out _ _ ⟨((blk_cell HWA.out.sb 0).trans rfl),((blk_cell HG6.out 0).trans rfl),((blk_cell HG6.out 1).trans rfl),((blk_cell HG6.out 2).trans rfl),((blk_cell HG6.out 3).trans rfl)⟩ (fun hHeld=>?_)
   clear hK K
   refine norm_ (a':=?_) ?_ ?_
   rotate_left
   ·show Act.put _ (some 26) _ = _
    simp only [Act.put,sA,sB,sC,i64_w,i32_w]
    rfl
   refine one_ (i:=7) (N:=none) (bm 255 9) rfl rfl (by kernel_rfl) (by decide) (fun K hK=>?_)
   have cob:w6.cell? ⟨Ob,0,none⟩ = some vo1:=(blk_cell HWA.out.ob 0).trans rfl
   have cobf:=blk_frozen HWA.out.ob 0
   refine skip_ (w1:=?_) (by rfl) rfl ?_ ?_
   rotate_left
   ·go_simp
    rfl
   have HWB:=Aside0.mk HWA.out.stored
   have HG7:=Aside0.mk ((Below.heap_setCell w6 ⟨Ob,0,none⟩ (.slice AV nv cv) g (fun e=>by have h:=HG6.out;rw [show g = Ob from e,HWA.out.ob] at h;injection h with h;injection h with _ h;exact absurd h (by decide))).trans HG6.out)
   have HF7:=Aside0.mk (HF6.out.set HWA.out.ob (by decide) (Nat.le_trans HLO.out HWA.out.lO) (o:=0) (.slice AV nv cv))
   have HL7:Aside0 (lo ≤ (w6.setCell ⟨Ob,0,none⟩ (.slice AV nv cv)).heap.size):=⟨by have:=HL6.out;simpa using this⟩
   clear cob cobf HWA HG6 HF6 HL6
   refine hK.out _ _ ⟨((blk_cell HWB.out.sb 0).trans rfl),((blk_cell HG7.out 0).trans rfl),((blk_cell HG7.out 1).trans rfl),((blk_cell HG7.out 2).trans rfl),((blk_cell HG7.out 3).trans rfl)⟩ (fun hHeld=>?_)
   clear hK K
   refine last_ (i:=8) (N:=none) (bm 511 9) rfl rfl (by kernel_rfl) (by decide) (fun K hK=>?_)
   obtain ⟨_,_,hmm⟩:=HWB.out.ms.map
   have HMM:=Aside0.mk hmm
   clear hmm
   refine step_store _ (by rfl) (.tmp 20) (.tmp 22) (.const (.bool true)) 133 4 rfl Try.underlying133 Sm out1.length gs1 rfl HWB.out.ms (by have:=HOL.out;simp only [maxLen];omega) x.f0 rfl (HWF.out x HXM.out.1) _ rfl ?_
   intro w8 hm8 hg8 hs8
   have HWE:=Aside0.mk (And.intro (HWB.out.marked hm8 hg8) (HF7.out.grown hg8 HL7.out (map_fr HMM.out (Nat.le_trans HLO.out HWB.out.lS))))
   have HLE:Aside0 (lo ≤ w8.heap.size):=⟨Nat.le_trans HL7.out hg8.size⟩
   have HGE:=Aside0.mk ((grown_move HMM.out hg8 _ _ _ HG7.out).trans HG7.out)
   clear hm8 hg8 hs8
   refine hK.out _ _ ?_
   clear hK K
   refine done_ (by kernel_rfl) ?_
   have wb8:w8.cell? ⟨Wb,0,none⟩ = some (.func (.func 108) #[] #[.pointer (some ⟨Kb,0,none⟩),.pointer (some ⟨Ob,0,none⟩),.pointer (some ⟨Sb,0,none⟩),.pointer (some ⟨Wb,0,none⟩)]):=(blk_cell HWE.out.1.wb 0).trans rfl
   have gx8:w8.cell? ⟨g,0,none⟩ = some (.int .i64 x.f0):=(blk_cell HGE.out 0).trans rfl
   clear hHeld
   go_upto_region 6 with (go_at_call 108;(with_reducible refine (HIH.out x.f0 (out1 ++ [x]) out2 _ done1 _ _ (HWF.out x HXM.out.1) HLE.out HBL.out HWE.out.1 HO2.out).mono ?_);rintro e6 w6 ⟨rfl,done2,vo2,gs2,hd2,hW6,hF6⟩;have HD6:=Aside0.mk hd2;have HW6:=Aside0.mk hW6;have HF6:=Aside0.mk hF6;clear hd2 hW6 hF6)
   have wk:wrap64 ((i:Int) + 1) = (i:Int) + 1:=by have:=HN.out.2.2;unfold wrap64;omega
   go_wp2
   go_roundg gl
   case measure=>omega
   case rel=>exact ⟨i + 1,done2,out2,vo2,gs2,by simp [wk],⟨by have:=HI.out;omega⟩,HV2,⟨fun q h=>HD6.out q (HD1.out q h)⟩,HW6,⟨HWE.out.2.trans HF6.out⟩⟩
end
theorem RangeV.block {w w':World} {b r n:Nat} {g:Int → Option Value} {left:Int → Bool} {cnt:Nat} (h:RangeV w b r n g left cnt) (hb:w'.heap[b]? = w.heap[b]?) (hr:w'.heap[r]? = w.heap[r]?):RangeV w' b r n g left cnt:=by
 obtain ⟨D,lf,⟨es,clock,since,seen,c0,h1,h2,h3,h4,h5,h6⟩,h7⟩:=h
 exact ⟨D,lf,⟨es,clock,since,seen,c0,hb.trans h1,h2,h3,h4,hr.trans h5,h6⟩,h7⟩
theorem RangeV.iter {w:World} {b r n:Nat} {g:Int → Option Value} {left:Int → Bool} {cnt:Nat} (h:RangeV w b r n g left cnt):∃ since seen c0,w.heap[r]? = some (.mapIter (some b) since seen c0):=by
 obtain ⟨D,lf,⟨es,clock,since,seen,c0,h1,h2,h3,h4,h5,h6⟩,h7⟩:=h
 exact ⟨since,seen,c0,h5⟩
def slOf (ga:Int → Option Value) (i:Int):Option Addr × Nat × Nat:=match (ga i).getD (.slice none 0 0) with
 | .slice A n c=>(A,n,c)
 | _=>(none,0,0)
def ItB (lo base:Nat) (w:World) (v:Value) (x:S87):Prop :=
 (Lit.int .i64 x.f1).wf = true ∧ ∃ p u,v = .pointer (some ⟨p,0,none⟩) ∧ lo ≤ p ∧ p < base ∧ w.heap[p]? = some (.cells #[.int .i64 x.f0,.int .i64 x.f1,.string x.f2,u] 87 (0,0))
structure FillB (lo base B Bi Ba n Kb K r nk:Nat) (gi ga:Int → Option Value) (b:Brd) (left:Int → Bool) (cnt:Nat) (gm:Int → Option Value) (w:World):Prop where
 blk:w.heap[B]? = some (.cells #[.map (some Bi),.map (some Ba)] 144 (0,0))
 rg:RangeV w Bi r n gi left cnt
 ma:MapV w Ba n ga
 neI:K ≠ Bi
 neA:K ≠ Ba
 its:∀ i,(gi i).isSome = (b.it i).isSome ∧ ∀ v x,gi i = some v → b.it i = some x → ItB lo base w v x
 ats:∀ i,AtV w lo ((ga i).getD (.slice none 0 0)) (b.atD i)
 kb:w.heap[Kb]? = some (.cells #[.map (some K)] 179 (0,0))
 mK:MapV w K nk gm
 lK:base ≤ K
structure FillR (base:Nat) (sl:Int → Option Addr × Nat × Nat) (gm:Int → Option Value) (w:World) (va:Value) (DK DA:List S87):Prop where
 kids:∀ p,RowIs w base ((gm p).getD (.slice none 0 0)) ((DK.filter (fun x=>x.f1 == p)).map (mk4 sl))
 kap:∀ p q k,p ≠ q → ((gm p).getD (.slice none 0 0)).ownBlock = some k → ((gm q).getD (.slice none 0 0)).ownBlock ≠ some k
 ra:RowIs w base va (DA.map (mk4 sl))
 aap:∀ p k,((gm p).getD (.slice none 0 0)).ownBlock = some k → va.ownBlock ≠ some k
section
variable {lo base B Bi Ba n Kb K r nk:Nat} {gi ga:Int → Option Value} {b:Brd} {left:Int → Bool} {cnt:Nat} {gm:Int → Option Value} {w w':World} {sl:Int → Option Addr × Nat × Nat} {va:Value} {DK DA:List S87}
def Kp (base:Nat) (w w':World):Prop:=∀ (g:Nat) (o:Obj),w.heap[g]? = some o → (∀ cur,o = .cells cur 87 (0,0) → g < base) → w'.heap[g]? = some o
theorem Kp.of {v:Value} {xs:List It4} (hv:RowIs w base v xs) (hg:w.grownBy w' v.ownBlock):Kp base w w':=by
 intro g o hgo ho
 refine (hg.block g (by obtain ⟨h,_⟩:=Array.getElem?_eq_some_iff.1 hgo;exact h) (fun e=>?_)).trans hgo
 obtain ⟨h1,_,cur,hc⟩:=hv.cells e.symm
 rw [hgo] at hc
 have:=ho cur (Option.some.inj hc)
 omega
theorem Kp.below (h:Below w.heap.size w w'):Kp base w w':=fun g o hgo _=>(h.block g (by obtain ⟨h,_⟩:=Array.getElem?_eq_some_iff.1 hgo;exact h)).trans hgo
theorem FillB.move (h:FillB lo base B Bi Ba n Kb K r nk gi ga b left cnt gm w) (hk:Kp base w w'):FillB lo base B Bi Ba n Kb K r nk gi ga b left cnt gm w':=by
 obtain ⟨_,_,m1⟩:=h.rg.map.map
 obtain ⟨_,_,m2⟩:=h.ma.map
 obtain ⟨_,_,m3⟩:=h.mK.map
 obtain ⟨_,_,_,m4⟩:=h.rg.iter
 have hmap:∀ {m:Nat} {es:Array MapEntry} {c:Nat},w.heap[m]? = some (.map es c) → w'.heap[m]? = w.heap[m]?:=fun hm=>(hk _ _ hm (fun _ e=>by cases e)).trans hm.symm
 refine ⟨hk _ _ h.blk (fun _ e=>by injection e with _ e;exact absurd e (by decide)),h.rg.block (hmap m1) ((hk _ _ m4 (fun _ e=>by cases e)).trans m4.symm),h.ma.block (hmap m2),h.neI,h.neA,fun i=>⟨(h.its i).1,fun v x hv hx=>?_⟩,fun i=>?_,hk _ _ h.kb (fun _ e=>by injection e with _ e;exact absurd e (by decide)),h.mK.block (hmap m3),h.lK⟩
 ·obtain ⟨hw,p,u,e,h1,h2,h3⟩:=(h.its i).2 v x hv hx
  exact ⟨hw,p,u,e,h1,h2,hk _ _ h3 (fun _ _=>h2)⟩
 ·exact AtV.move (h.ats i) (fun k cells hc=>(hk _ _ hc (fun _ e=>by injection e with _ e;exact absurd e (by decide))).trans hc.symm)
theorem FillB.next {left':Int → Bool} {cnt':Nat} (h:FillB lo base B Bi Ba n Kb K r nk gi ga b left cnt gm w) (hr:RangeV w' Bi r n gi left' cnt') (hg:w.grownBy w' (some r)):FillB lo base B Bi Ba n Kb K r nk gi ga b left' cnt' gm w':=by
 obtain ⟨_,_,m2⟩:=h.ma.map
 obtain ⟨_,_,m3⟩:=h.mK.map
 obtain ⟨_,_,_,m4⟩:=h.rg.iter
 have hk:∀ {g:Nat} {o:Obj},w.heap[g]? = some o → (∀ a b c d,o ≠ .mapIter a b c d) → w'.heap[g]? = some o:=fun {g o} hgo ho=>(hg.block g (by obtain ⟨h,_⟩:=Array.getElem?_eq_some_iff.1 hgo;exact h) (fun e=>by cases e;rw [m4] at hgo;exact ho _ _ _ _ (Option.some.inj hgo).symm)).trans hgo
 refine ⟨hk h.blk (fun _ _ _ _ e=>by cases e),hr,h.ma.block ((hk m2 (fun _ _ _ _ e=>by cases e)).trans m2.symm),h.neI,h.neA,fun i=>⟨(h.its i).1,fun v x hv hx=>?_⟩,fun i=>?_,hk h.kb (fun _ _ _ _ e=>by cases e),h.mK.block ((hk m3 (fun _ _ _ _ e=>by cases e)).trans m3.symm),h.lK⟩
 ·obtain ⟨hw,p,u,e,h1,h2,h3⟩:=(h.its i).2 v x hv hx
  exact ⟨hw,p,u,e,h1,h2,hk h3 (fun _ _ _ _ e=>by cases e)⟩
 ·exact AtV.move (h.ats i) (fun k cells hc=>(hk hc (fun _ _ _ _ e=>by cases e)).trans hc.symm)
theorem FillR.next (h:FillR base sl gm w va DK DA) (hr:RangeV w Bi r n gi left cnt) (hg:w.grownBy w' (some r)):FillR base sl gm w' va DK DA:=by
 obtain ⟨_,_,_,m4⟩:=hr.iter
 have hrow:∀ {v:Value} {xs:List It4},RowIs w base v xs → RowIs w' base v xs:=fun hv=>hv.keep (fun k e=>hg.block k (hv.cells e).2.1 (fun e'=>by
  cases e'
  obtain ⟨_,_,cur,hc⟩:=hv.cells e
  rw [m4] at hc
  cases hc))
 exact ⟨fun p=>hrow (h.kids p),h.kap,hrow h.ra,h.aap⟩
theorem FillB.store (h:FillB lo base B Bi Ba n Kb K r nk gi ga b left cnt gm w) {p:Nat} {c0 c1 c2 u:Value} (hp:w.heap[p]? = some (.cells #[c0,c1,c2,u] 87 (0,0))) (u':Value):FillB lo base B Bi Ba n Kb K r nk gi ga b left cnt gm (w.setCell ⟨p,3,none⟩ u'):=by
 obtain ⟨_,_,m1⟩:=h.rg.map.map
 obtain ⟨_,_,m2⟩:=h.ma.map
 obtain ⟨_,_,m3⟩:=h.mK.map
 obtain ⟨_,_,_,m4⟩:=h.rg.iter
 have hfar:∀ {g:Nat},g ≠ p → (w.setCell ⟨p,3,none⟩ u').heap[g]? = w.heap[g]?:=fun hg=>Below.heap_setCell w ⟨p,3,none⟩ u' _ hg
 have hk:∀ {g:Nat} {o:Obj},w.heap[g]? = some o → (∀ c,o ≠ .cells c 87 (0,0)) → (w.setCell ⟨p,3,none⟩ u').heap[g]? = some o:=fun {g o} hgo ho=>(hfar (fun e=>by subst e;rw [hp] at hgo;exact ho _ (Option.some.inj hgo).symm)).trans hgo
 refine ⟨hk h.blk (fun _ e=>by injection e with _ e;exact absurd e (by decide)),h.rg.block ((hk m1 (fun _ e=>by cases e)).trans m1.symm) ((hk m4 (fun _ e=>by cases e)).trans m4.symm),h.ma.block ((hk m2 (fun _ e=>by cases e)).trans m2.symm),h.neI,h.neA,fun i=>⟨(h.its i).1,fun v x hv hx=>?_⟩,fun i=>?_,hk h.kb (fun _ e=>by injection e with _ e;exact absurd e (by decide)),h.mK.block ((hk m3 (fun _ e=>by cases e)).trans m3.symm),h.lK⟩
 ·obtain ⟨hw,q,v',e,h1,h2,h3⟩:=(h.its i).2 v x hv hx
  by_cases hq:q = p
  ·subst hq
   rw [hp] at h3
   injection h3 with h3
   injection h3 with h3
   injection h3 with h3
   simp only [List.cons.injEq,and_true] at h3
   obtain ⟨rfl,rfl,rfl,rfl⟩:=h3
   refine ⟨hw,q,u',e,h1,h2,?_⟩
   have:=blk_set hp 3 u'
   simpa using this
  ·exact ⟨hw,q,v',e,h1,h2,(hfar hq).trans h3⟩
 ·exact AtV.move (h.ats i) (fun k cells hc=>(hk hc (fun _ e=>by injection e with _ e;exact absurd e (by decide))).trans hc.symm)
theorem FillR.store (h:FillR base sl gm w va DK DA) {p:Nat} (hp:p < base) (u:Value) (o:Nat):FillR base sl gm (w.setCell ⟨p,o,none⟩ u) va DK DA:=by
 have hrow:∀ {v:Value} {xs:List It4},RowIs w base v xs → RowIs (w.setCell ⟨p,o,none⟩ u) base v xs:=fun hv=>hv.keep (fun k e=>Below.heap_setCell w ⟨p,o,none⟩ u k (by have:=(hv.cells e).1;simp only;omega))
 exact ⟨fun p=>hrow (h.kids p),h.kap,hrow h.ra,h.aap⟩
theorem FillR.below (h:FillR base sl gm w va DK DA) (hb:Below w.heap.size w w'):FillR base sl gm w' va DK DA:=by
 have hrow:∀ {v:Value} {xs:List It4},RowIs w base v xs → RowIs w' base v xs:=fun hv=>hv.keep (fun k e=>hb.block k (hv.cells e).2.1)
 exact ⟨fun p=>hrow (h.kids p),h.kap,hrow h.ra,h.aap⟩
theorem FillB.put (h:FillB lo base B Bi Ba n Kb K r nk gi ga b left cnt gm w) {q:Int} {vn:Value} (hm:MapV w' K (nk + 1) (putV gm q vn) ) (hg:w.grownBy w' (some K)):FillB lo base B Bi Ba n Kb K r (nk + 1) gi ga b left cnt (putV gm q vn) w':=by
 obtain ⟨_,_,m1⟩:=h.rg.map.map
 obtain ⟨_,_,m2⟩:=h.ma.map
 obtain ⟨_,_,m3⟩:=h.mK.map
 obtain ⟨_,_,_,m4⟩:=h.rg.iter
 have hk:∀ {g:Nat} {o:Obj},w.heap[g]? = some o → g ≠ K → w'.heap[g]? = some o:=fun {g o} hgo ho=>(hg.block g (by obtain ⟨h,_⟩:=Array.getElem?_eq_some_iff.1 hgo;exact h) (fun e=>ho (by injection e))).trans hgo
 have ho:∀ {g:Nat} {o:Obj},w.heap[g]? = some o → (∀ a b,o ≠ .map a b) → g ≠ K:=fun {g o} hgo hne e=>by subst e;rw [m3] at hgo;exact hne _ _ (Option.some.inj hgo).symm
 refine ⟨hk h.blk (ho h.blk (fun _ _ e=>by cases e)),h.rg.block ((hk m1 (Ne.symm h.neI)).trans m1.symm) ((hk m4 (ho m4 (fun _ _ e=>by cases e))).trans m4.symm),h.ma.block ((hk m2 (Ne.symm h.neA)).trans m2.symm),h.neI,h.neA,fun i=>⟨(h.its i).1,fun v x hv hx=>?_⟩,fun i=>?_,hk h.kb (ho h.kb (fun _ _ e=>by cases e)),hm,h.lK⟩
 ·obtain ⟨hw,p,u,e,h1,h2,h3⟩:=(h.its i).2 v x hv hx
  exact ⟨hw,p,u,e,h1,h2,hk h3 (ho h3 (fun _ _ e=>by cases e))⟩
 ·exact AtV.move (h.ats i) (fun k cells hc=>(hk hc (ho hc (fun _ _ e=>by cases e))).trans hc.symm)
theorem putV_getD (g:Int → Option Value) (q:Int) (v z:Value) (p:Int):(putV g q v p).getD z = if p = q then v else (g p).getD z:=by
 unfold putV
 split <;> rfl
theorem FillR.appK (h:FillR base sl gm w va DK DA) {x:S87} {vn:Value} (hr:RowIs w' base vn ((DK.filter (fun y=>y.f1 == x.f1) ++ [x]).map (mk4 sl))) (hg:w.grownBy w' ((gm x.f1).getD (.slice none 0 0)).ownBlock) (hat:vn.ownBlock = ((gm x.f1).getD (.slice none 0 0)).ownBlock ∨ ∃ k,vn.ownBlock = some k ∧ w.heap.size ≤ k) :
 FillR base sl (putV gm x.f1 vn) w' va (DK ++ [x]) DA:=by
 have hrow:∀ {v:Value} {xs:List It4},RowIs w base v xs → (∀ k,((gm x.f1).getD (.slice none 0 0)).ownBlock = some k → v.ownBlock ≠ some k) → RowIs w' base v xs:=fun hv hk=>hv.keep (fun k e=>hg.block k (hv.cells e).2.1 (fun e'=>hk k e'.symm e))
 have hnew:∀ {v:Value} {xs:List It4},RowIs w base v xs → (∀ k,v.ownBlock = some k → ((gm x.f1).getD (.slice none 0 0)).ownBlock ≠ some k) → ∀ k,v.ownBlock = some k → vn.ownBlock ≠ some k:=by
  intro v xs hv hk k e e'
  rcases hat with hat | ⟨k',hat,hs⟩
  ·rw [hat] at e'
   exact hk k e e'
  ·rw [hat] at e'
   cases e'
   exact absurd (hv.cells e).2.1 (by omega)
 refine ⟨fun p=>?_,fun p q k hpq e=>?_,hrow h.ra (fun k e=>h.aap _ k e),fun p k e=>?_⟩
 ·rw [putV_getD,List.filter_append]
  by_cases hp:p = x.f1
  ·subst hp
   rw [if_pos rfl]
   simpa using hr
  ·rw [if_neg hp]
   have:([x].filter (fun y=>y.f1 == p)) = []:=by simp [Ne.symm hp]
   rw [this,List.append_nil]
   exact hrow (h.kids p) (fun k e=>h.kap _ _ k (Ne.symm hp) e)
 ·rw [putV_getD] at e ⊢
  by_cases hq:q = x.f1
  ·rw [if_pos hq]
   rw [if_neg (by rw [← hq];exact hpq)] at e
   exact hnew (h.kids p) (fun k e=>h.kap _ _ k (by rw [← hq];exact hpq) e) k e
  ·rw [if_neg hq]
   by_cases hp:p = x.f1
   ·rw [if_pos hp] at e
    intro e'
    exact hnew (h.kids q) (fun k e=>h.kap _ _ k hq e) k e' e
   ·rw [if_neg hp] at e
    exact h.kap _ _ k hpq e
 ·rw [putV_getD] at e
  by_cases hp:p = x.f1
  ·rw [if_pos hp] at e
   intro e'
   exact hnew h.ra (fun k h1 h2=>h.aap _ k h2 h1) k e' e
  ·rw [if_neg hp] at e
   exact h.aap _ k e
theorem FillR.mapped (h:FillR base sl gm w va DK DA) {m:Nat} {es:Array MapEntry} {c:Nat} (hm:w.heap[m]? = some (.map es c)) (hg:w.grownBy w' (some m)):FillR base sl gm w' va DK DA:=by
 have hrow:∀ {v:Value} {xs:List It4},RowIs w base v xs → RowIs w' base v xs:=fun hv=>hv.keep (fun k e=>by
  obtain ⟨_,_,cur,hc⟩:=hv.cells e
  exact grown_move hm hg _ _ _ hc)
 exact ⟨fun p=>hrow (h.kids p),h.kap,hrow h.ra,h.aap⟩
theorem FillR.appA (h:FillR base sl gm w va DK DA) {x:S87} {vn:Value} (hr:RowIs w' base vn ((DA ++ [x]).map (mk4 sl))) (hg:w.grownBy w' va.ownBlock) (hat:vn.ownBlock = va.ownBlock ∨ ∃ k,vn.ownBlock = some k ∧ w.heap.size ≤ k):FillR base sl gm w' vn DK (DA ++ [x]):=by
 have hrow:∀ {v:Value} {xs:List It4},RowIs w base v xs → (∀ k,va.ownBlock = some k → v.ownBlock ≠ some k) → RowIs w' base v xs:=fun hv hk=>hv.keep (fun k e=>hg.block k (hv.cells e).2.1 (fun e'=>hk k e'.symm e))
 refine ⟨fun p=>hrow (h.kids p) (fun k h1 h2=>h.aap p k h2 h1),h.kap,hr,fun p k e e'=>?_⟩
 rcases hat with hat | ⟨k',hat,hs⟩
 ·rw [hat] at e'
  exact h.aap p k e e'
 ·rw [hat] at e'
  cases e'
  exact absurd ((h.kids p).cells e).2.1 (by omega)
end
section
variable {lo base B Bi Ba n Kb K r nk:Nat} {gi ga:Int → Option Value} {b:Brd} {left:Int → Bool} {cnt:Nat} {gm:Int → Option Value} {w w':World} {sl:Int → Option Addr × Nat × Nat} {va:Value} {DK DA:List S87}
abbrev fillW (w:World):World:=(w.alloc (.map #[] 0)).alloc (.cells #[.map (some w.heap.size)] 179)
theorem fillW_below (w:World):Below w.heap.size w (fillW w):=below_alloc (below_alloc (Below.refl _ _) _) _
theorem FillB.start (h:BoardIs w lo B Bi Ba n gi ga b) (hl:lo ≤ w.heap.size) {w3:World} (hr:RangeV w3 Bi (w.heap.size + 2) n gi (fun i=>(gi i).isSome) cnt) (hg:(fillW w).grownBy w3 none) :
 FillB lo w.heap.size B Bi Ba n (w.heap.size + 1) w.heap.size (w.heap.size + 2) 0 gi ga b (fun i=>(gi i).isSome) cnt (fun _=>none) w3:=by
 have hb1:=fillW_below w
 have hs:(fillW w).heap.size = w.heap.size + 2:=by simp [fillW]
 have hb2:∀ k,k < w.heap.size + 2 → w3.heap[k]? = (fillW w).heap[k]?:=fun k hk=>hg.block k (by rw [hs];exact hk) (by simp)
 have hb3:∀ k,k < w.heap.size → w3.heap[k]? = w.heap[k]?:=fun k hk=>(hb2 k (by omega)).trans (hb1.block k hk)
 have hkm:(fillW w).heap[w.heap.size]? = (w.alloc (.map #[] 0)).heap[w.heap.size]?:=(below_alloc (Below.refl _ (w.alloc (.map #[] 0))) _).block _ (by simp)
 refine ⟨(hb3 _ (blk_lt h.blk)).trans h.blk,hr,h.ma.block (hb3 _ h.ma.lt),fun e=>by have:=h.mi.lt;omega,fun e=>by have:=h.ma.lt;omega,fun i=>⟨(h.it i).1,fun v x hv hx=>?_⟩,fun i=>?_,?_,?_,Nat.le_refl _⟩
 ·obtain ⟨hw,p,u,e,h1,h2,h3⟩:=(h.it i).2 v x hv hx
  exact ⟨hw,p,u,e,h1,blk_lt h2,(hb3 p (blk_lt h2)).trans h2⟩
 ·exact AtV.move (h.atD i) (fun k cells hc=>hb3 k (blk_lt hc))
 ·rw [hb2 _ (by omega)]
  have:=blk_new (w.alloc (.map #[] 0)) (.cells #[.map (some w.heap.size)] 179)
  simpa using this
 ·exact (MapV.made w).block ((hb2 _ (by omega)).trans hkm)
theorem FillR.start (base:Nat) (sl:Int → Option Addr × Nat × Nat) (w:World):FillR base sl (fun _=>none) w (.slice none 0 0) [] [] :=
 ⟨fun p=>RowIs.nil _ _,(fun p q k _ e=>by cases e),RowIs.nil _ _,(fun p k e=>by cases e)⟩
theorem left_step {D its:List S87} {left:Int → Bool} {x:S87} (hD:D.Perm (its.filter (fun y=>!left y.f0))) (hnd:its.Pairwise (fun x y=>x.f0 ≠ y.f0)) (hx:x ∈ its) (hl:left x.f0 = true):(D ++ [x]).Perm (its.filter (fun y=>!(left y.f0 && !decide (y.f0 = x.f0)))):=by
 refine (hD.append_right [x]).trans ?_
 clear hD
 induction its with
 | nil=>cases hx
 | cons y l ih =>
  rw [List.pairwise_cons] at hnd
  rcases List.mem_cons.1 hx with rfl | hx
  ·have h1:l.filter (fun y=>!(left y.f0 && !decide (y.f0 = x.f0))) = l.filter (fun y=>!left y.f0):=List.filter_congr fun y hy=>by
    have:=hnd.1 y hy
    rw [decide_eq_false (Ne.symm this)]
    simp
   rw [List.filter_cons,List.filter_cons,h1]
   simp only [hl,decide_true,Bool.not_true,Bool.and_false,Bool.not_false,if_true,Bool.false_eq_true,if_false]
   exact List.perm_append_comm.trans (by simp)
  ·have h2:=ih hnd.2 hx
   have h3:decide (y.f0 = x.f0) = false:=decide_eq_false (hnd.1 x hx)
   rw [List.filter_cons,List.filter_cons,h3]
   cases left y.f0 with
   | true=>simpa using h2
   | false=>simpa using h2.cons y
theorem left_done {D its:List S87} {left:Int → Bool} (hD:D.Perm (its.filter (fun y=>!left y.f0))) (hl:∀ i,left i = false):D.Perm its:=by
 have:its.filter (fun y=>!left y.f0) = its:=List.filter_eq_self.2 fun y _=>by rw [hl];rfl
 rwa [this] at hD
abbrev walkW (w:World) (Kb:Nat):World:=(((w.alloc (.cells #[.slice none 0 0] 70)).alloc (.map #[] 0)).alloc (.cells #[.map (some (w.heap.size + 1))] 133)).alloc (.cells #[.func (.func 108) #[] #[.pointer (some ⟨Kb,0,none⟩),.pointer (some ⟨w.heap.size,0,none⟩),.pointer (some ⟨w.heap.size + 1 + 1,0,none⟩),.pointer (some ⟨w.heap.size + 1 + 1 + 1,0,none⟩)]] 174)
theorem walkW_below (w:World) (Kb:Nat):Below w.heap.size w (walkW w Kb):=below_alloc (below_alloc (below_alloc (below_alloc (Below.refl _ _) _) _) _) _
theorem WalkS.start (h:FillB lo base B Bi Ba n Kb K r nk gi ga b left cnt gm w) (hr:FillR base sl gm w va DK DA) (hD:DK.Perm b.its) (hb:base ≤ w.heap.size) :
 WalkS base K Kb w.heap.size (w.heap.size + 1 + 1) (w.heap.size + 1 + 1 + 1) (w.heap.size + 1) nk gm sl b va DA (fun _=>False) (walkW w Kb) (.slice none 0 0) [] (fun _=>none):=by
 have hbw:=walkW_below w Kb
 have h0:=blk_new w (.cells #[.slice none 0 0] 70)
 have h1:=MapV.made (w.alloc (.cells #[.slice none 0 0] 70))
 have e1:(w.alloc (.cells #[.slice none 0 0] 70)).heap.size = w.heap.size + 1:=by simp
 have h2:=blk_new ((w.alloc (.cells #[.slice none 0 0] 70)).alloc (.map #[] 0)) (.cells #[.map (some (w.heap.size + 1))] 133)
 have e2:((w.alloc (.cells #[.slice none 0 0] 70)).alloc (.map #[] 0)).heap.size = w.heap.size + 1 + 1:=by simp
 have h3:=blk_new (((w.alloc (.cells #[.slice none 0 0] 70)).alloc (.map #[] 0)).alloc (.cells #[.map (some (w.heap.size + 1))] 133)) (.cells #[.func (.func 108) #[] #[.pointer (some ⟨Kb,0,none⟩),.pointer (some ⟨w.heap.size,0,none⟩),.pointer (some ⟨w.heap.size + 1 + 1,0,none⟩),.pointer (some ⟨w.heap.size + 1 + 1 + 1,0,none⟩)]] 174)
 have e3:(((w.alloc (.cells #[.slice none 0 0] 70)).alloc (.map #[] 0)).alloc (.cells #[.map (some (w.heap.size + 1))] 133)).heap.size = w.heap.size + 1 + 1 + 1:=by simp
 rw [e1] at h1
 rw [e2] at h2
 rw [e3] at h3
 refine ⟨(hbw.block _ (blk_lt h.kb)).trans h.kb,blk_alloc (blk_alloc (blk_alloc h0 _) _) _,blk_alloc h2 _,h3,hb,by omega,fun e=>by have:=h.mK.lt;omega,h.mK.block (hbw.block _ h.mK.lt),?_,fun i=>rfl,fun p=>⟨_,hD.filter _,fun hp=>hp.elim,?_⟩,hr.kap,RowIs.nil _ _,(fun p k _ e=>by cases e),?_,hr.aap,(fun k e=>by cases e)⟩
 ·refine h1.block (((below_alloc (Below.refl _ _) _).block _ (by rw [e3];omega)).trans ((below_alloc (Below.refl _ _) _).block _ (by rw [e2];omega)))
 ·exact (hr.kids p).keep (fun k hk=>hbw.block k ((hr.kids p).cells hk).2.1)
 ·exact hr.ra.keep (fun k hk=>hbw.block k (hr.ra.cells hk).2.1)
structure RestS (base Ob Sb Sm m:Nat) (gs:Int → Option Value) (sl:Int → Option Addr × Nat × Nat) (va:Value) (L:List S87) (w:World) (vo:Value) (out:List S87):Prop where
 ob:w.heap[Ob]? = some (.cells #[vo] 70 (0,0))
 sb:w.heap[Sb]? = some (.cells #[.map (some Sm)] 133 (0,0))
 lO:base ≤ Ob
 ms:MapV w Sm m gs
 ra:RowIs w base va (L.map (mk4 sl))
 ro:RowIs w base vo (out.map (mk4 sl))
 voa:∀ k,vo.ownBlock = some k → va.ownBlock ≠ some k
theorem WalkS.rest {Ob Sb Wb Sm:Nat} {D L:List S87} {done:Int → Prop} {vo:Value} {out:List S87} {gs:Int → Option Value} (h:WalkS base K Kb Ob Sb Wb Sm nk gm sl b va D done w vo out gs) (hg:w.grownBy w' va.ownBlock) (hr:RowIs w' base va (L.map (mk4 sl))):RestS base Ob Sb Sm out.length gs sl va L w' vo out:=by
 have hcell:∀ {g:Nat} {cur:Array Value} {t:TypeId},w.heap[g]? = some (.cells cur t (0,0)) → t ≠ 87 → w'.heap[g]? = some (.cells cur t (0,0)):=fun hb ht=>(hg.block _ (blk_lt hb) (fun e=>h.ra.ne hb (not87 ht) e.symm)).trans hb
 obtain ⟨_,_,m2⟩:=h.ms.map
 refine ⟨hcell h.ob (by decide),hcell h.sb (by decide),h.lO,h.ms.block (hg.block _ (by obtain ⟨h,_⟩:=Array.getElem?_eq_some_iff.1 m2;exact h) (fun e=>h.ra.ne m2 mapnot87 e.symm)),hr,h.ro.keep (fun k e=>hg.block k (h.ro.cells e).2.1 (fun e'=>h.voa k e e'.symm)),h.voa⟩
section
variable {Ob Sb Sm m:Nat} {gs:Int → Option Value} {L:List S87} {vo:Value} {out:List S87}
theorem RestS.below (h:RestS base Ob Sb Sm m gs sl va L w vo out) (hb:Below w.heap.size w w'):RestS base Ob Sb Sm m gs sl va L w' vo out :=
 ⟨(hb.block _ (blk_lt h.ob)).trans h.ob,(hb.block _ (blk_lt h.sb)).trans h.sb,h.lO,h.ms.block (hb.block _ h.ms.lt),h.ra.keep (fun k e=>hb.block k (h.ra.cells e).2.1),h.ro.keep (fun k e=>hb.block k (h.ro.cells e).2.1),h.voa⟩
theorem RestS.append (h:RestS base Ob Sb Sm m gs sl va L w vo out) {x:S87} {vn:Value} (hr:RowIs w' base vn ((out ++ [x]).map (mk4 sl))) (hg:w.grownBy w' vo.ownBlock) (hat:vn.ownBlock = vo.ownBlock ∨ ∃ k,vn.ownBlock = some k ∧ w.heap.size ≤ k) :
 w'.heap[Ob]? = some (.cells #[vo] 70 (0,0)) ∧ RestS base Ob Sb Sm m gs sl va L (w'.setCell ⟨Ob,0,none⟩ vn) vn (out ++ [x]):=by
 have hcell:∀ {g:Nat} {cur:Array Value} {t:TypeId},w.heap[g]? = some (.cells cur t (0,0)) → t ≠ 87 → w'.heap[g]? = some (.cells cur t (0,0)):=fun hb ht=>(hg.block _ (blk_lt hb) (fun e=>h.ro.ne hb (not87 ht) e.symm)).trans hb
 obtain ⟨_,_,m2⟩:=h.ms.map
 have hob:=hcell h.ob (by decide)
 have hsb:=hcell h.sb (by decide)
 have hm:w'.heap[Sm]? = w.heap[Sm]?:=hg.block _ (by obtain ⟨h,_⟩:=Array.getElem?_eq_some_iff.1 m2;exact h) (fun e=>h.ro.ne m2 mapnot87 e.symm)
 have hra:RowIs w' base va (L.map (mk4 sl)):=h.ra.keep (fun k e=>hg.block k (h.ra.cells e).2.1 (fun e'=>h.voa k e'.symm e))
 have hfar:∀ {g:Nat},g ≠ Ob → (w'.setCell ⟨Ob,0,none⟩ vn).heap[g]? = w'.heap[g]?:=fun hg=>Below.heap_setCell w' ⟨Ob,0,none⟩ vn _ hg
 have hrow:∀ {v:Value} {xs:List It4},RowIs w' base v xs → RowIs (w'.setCell ⟨Ob,0,none⟩ vn) base v xs:=fun hv=>hv.keep (fun k e=>hfar (fun e'=>hv.ne hob (not87 (by decide)) (by rw [e,e'])))
 refine ⟨hob,?_,(hfar (fun e=>by subst e;rw [hob] at hsb;injection hsb with hsb;injection hsb with _ hsb;exact absurd hsb (by decide))).trans hsb,h.lO,h.ms.block ((hfar (fun e=>by subst e;rw [← hm,hob] at m2;cases m2)).trans hm),hrow hra,hrow hr,fun k e e'=>?_⟩
 ·have:=blk_set hob 0 vn
  simpa using this
 ·rcases hat with hat | ⟨k',hat,hs⟩
  ·rw [hat] at e
   exact h.voa k e e'
  ·rw [hat] at e
   cases e
   exact absurd (h.ra.cells e').2.1 (by omega)
end
theorem sorted_all {b:Brd} (hB:BOK b) (sl:Int → Option Addr × Nat × Nat) {D:List S87} {L1:List It4} (h0:D.Perm b.its) (h1:L1.Perm (D.map (mk4 sl))) (hs:L1.Pairwise (fun x y=>ltOf cmpN y x = false)):L1 = (sortB ltN b.its).map (mk4 sl):=by
 have hm:=(h0.trans (sortB_perm ltN b.its).symm).map (mk4 sl)
 refine sorted_one (lt:=ltOf cmpN) (h1.trans hm) hs ?_ ?_
 ·rw [List.pairwise_map]
  exact sortB_sorted ltN ltN_nt ltN_as b.its
 ·intro x hx y hy e1 e2
  obtain ⟨x',hx',rfl⟩:=List.mem_map.1 hx
  obtain ⟨y',hy',rfl⟩:=List.mem_map.1 hy
  have h3:x'.f0 = y'.f0:=by
   have h1:=of_decide_eq_false ((cmpI_lt x'.f0 y'.f0).symm.trans e1)
   have h2:=of_decide_eq_false ((cmpI_lt y'.f0 x'.f0).symm.trans e2)
   omega
  have h4:=hB.it_of ((sortB_perm ltN b.its).mem_iff.1 hx')
  rw [h3,hB.it_of ((sortB_perm ltN b.its).mem_iff.1 hy')] at h4
  cases h4
  rfl
theorem rows_R {L:List S87} {vo:Value} (hlo:lo ≤ base) (h:RowIs w base vo (L.map (mk4 (slOf ga)))) (ha:∀ i,AtV w lo ((ga i).getD (.slice none 0 0)) (b.atD i)):Kd.R k87 87 w lo (fun k=>lo ≤ k) vo (L.map (fillF b)):=by
 refine ⟨fun k hk=>own_base (own_weaken h hlo) k hk,(L.map (mk4 (slOf ga))).flatMap enc4,?_,?_,fun j y hy=>?_⟩
 ·rw [List.length_map]
  have:=own_weaken h hlo
  rwa [List.length_map] at this
 ·rw [flat_len,List.length_map,List.length_map]
  rfl
 ·rw [List.getElem?_map] at hy
  obtain ⟨x,hx,rfl⟩:=Option.map_eq_some_iff.1 hy
  have hj:j < L.length:=(List.getElem?_eq_some_iff.1 hx).1
  have hsz:k87.sz = 4:=rfl
  rw [hsz]
  obtain ⟨A,c,hv,_⟩:=(ha x.f0).reads
  have e1:(((L.map (mk4 (slOf ga))).flatMap enc4).drop (j * 4)).take 4 = [.int .i64 x.f0,.int .i64 x.f1,.string x.f2,.slice A (b.atD x.f0).length c]:=by
   have hs:slOf ga x.f0 = (A,(b.atD x.f0).length,c):=by unfold slOf;rw [hv]
   have hf:∀ t,t < 4 → ((L.map (mk4 (slOf ga))).flatMap enc4)[j * 4 + t]? = some ((enc4 (mk4 (slOf ga) x))[t]!):=fun t ht=>by
    rw [flat_get _ _ (by rw [List.length_map];omega)]
    have e1:(j * 4 + t) / 4 = j:=by omega
    have e2:(j * 4 + t) % 4 = t:=by omega
    rw [e1,e2,getElem!_pos _ j (by rw [List.length_map];exact hj),List.getElem_map]
    have:L[j] = x:=by rw [List.getElem?_eq_getElem hj] at hx;exact Option.some.inj hx
    rw [this]
   have he:enc4 (mk4 (slOf ga) x) = [.int .i64 x.f0,.int .i64 x.f1,.string x.f2,.slice A (b.atD x.f0).length c]:=by unfold enc4 mk4;rw [hs]
   rw [← he]
   apply List.ext_getElem?
   intro t
   by_cases ht:t < 4
   ·rw [List.getElem?_take_of_lt ht,List.getElem?_drop,hf t ht]
    rw [getElem!_pos _ t (by rw [enc4_len];exact ht),List.getElem?_eq_getElem (by rw [enc4_len];exact ht)]
   ·rw [List.getElem?_eq_none (by rw [List.length_take];omega),List.getElem?_eq_none (by rw [enc4_len];omega)]
  rw [e1]
  have hR:=ha x.f0
  rw [hv] at hR
  refine k87_mkM w lo _ (fillF b x) (show k91.R 91 w lo _ _ (b.atD x.f0) from ⟨fun k hk=>⟨?_,fun e=>?_⟩,?_⟩)
  ·obtain ⟨_,inner,ho,_⟩:=hR
   exact own_base ho k hk
  ·obtain ⟨_,inner,ho,_⟩:=hR
   obtain ⟨c1,h1⟩:=own_typed ho k hk
   obtain ⟨_,_,c2,h2⟩:=h.cells e.symm
   rw [h1] at h2
   injection h2 with h2
   injection h2 with _ h2
   exact absurd h2 (by decide)
  ·obtain ⟨_,inner,ho,hr⟩:=hR
   exact ⟨inner,ho,hr.1,fun t p hp=>by
    have:=k91_openM (hr.2 t p hp)
    rw [this]
    exact k91_mkM _ _ _ _⟩
end
theorem zero4 (w:World):(zeroValue 4).run Try.prog w = .ok (.bool false) w:=by kernel_rfl
theorem MapV.run {w:World} {b n:Nat} {g:Int → Option Value} (h:MapV w b n g) {t e:TypeId} (ht:Try.prog.underlying t = some (.map 3 e)) {z:Value} (hz:(zeroValue e).run Try.prog w = .ok z w) (i:Int) (hw:(Lit.int .i64 i).wf = true) {v:Value} (hv:(g i).getD z = v) :
 (Instr.lookup t (.map (some b)) (.int .i64 i) false).run Try.prog w = .ok v w:=by rw [h.look ht hz i hw,hv]
def RawE (lo:Nat) (w:World) (b:Brd) (e:Ending) (w':World):Prop:=∃ v0,e = .returned v0 ∧ Kd.R k87 87 w' lo (fun k=>lo ≤ k) v0 ((orderL b).map (fillF b)) ∧ Below lo w w'
set_option maxRecDepth 100000 in
set_option maxHeartbeats 8000000 in
theorem raw_calls (k:Nat) (A0:Option Addr) (c0:Nat) (l:List S128) (w:World) (hr0:Kd.C k128 w A0 l.length l) (hc0:l.length ≤ c0) (hok:∀ o ∈ l,OpOK o) (b:Brd) (h:playF k l ⟨[],[]⟩ = some b) (hB:BOK b) (hlen:b.its.length ≤ 1073741824) (hWf:∀ x ∈ b.its,(Lit.int .i64 x.f0).wf = true) :
 Calls Try.prog 74 #[.slice A0 l.length c0] w (RawE w.heap.size w b):=by
 have hmm:=@run_makeMap Try.prog
 have HPL:Aside0 (Calls Try.prog 76 #[.slice A0 l.length c0] w fun e w'=>∃ B Bi Ba n gi ga,e = .returned (.pointer (some ⟨B,0,none⟩)) ∧ BoardIs w' w.heap.size B Bi Ba n gi ga b ∧ Below w.heap.size w w'):=⟨play_calls k A0 c0 l w hr0 hc0 hok b h⟩
 have HBK:=Aside0.mk hB
 have HLN:=Aside0.mk hlen
 have HWF:=Aside0.mk hWf
 clear hr0 hc0 hok h hB hlen hWf
 go_enter Try.func74,Try.ntmps74
 go_upto_region 4 with (go_at_call 76;(with_reducible refine HPL.out.mono ?_);rintro e1 w1 ⟨B,Bi,Ba,n,gi,ga,rfl,hbd,hbel⟩;have HBD:=Aside0.mk hbd;have HBL:=Aside0.mk hbel;clear hbd hbel)
 obtain ⟨w2,hw2⟩:∃ W,W = fillW w1:=⟨_,rfl⟩
 obtain ⟨base,hbase⟩:∃ m,m = w1.heap.size:=⟨_,rfl⟩
 have HLO:Aside0 (w.heap.size ≤ base):=⟨by rw [hbase];exact HBL.out.size⟩
 have HS2:Aside0 (w2.heap.size = base + 2):=⟨by rw [hw2,hbase];simp [fillW]⟩
 have HBD2:Aside0 (BoardIs w2 w.heap.size B Bi Ba n gi ga b):=⟨by rw [hw2];exact HBD.out.below (fillW_below w1)⟩
 have HST:Aside0 (∀ w3 cnt,RangeV w3 Bi (base + 2) n gi (fun i=>(gi i).isSome) cnt → w2.grownBy w3 none → FillB w.heap.size base B Bi Ba n (base + 1) base (base + 2) 0 gi ga b (fun i=>(gi i).isSome) cnt (fun _=>none) w3):=⟨fun w3 cnt h1 h2=>by
  rw [hbase] at h1 ⊢
  rw [hw2] at h2
  exact FillB.start HBD.out HBL.out.size h1 h2⟩
 have HB2:Aside0 (Below w.heap.size w w2):=⟨by rw [hw2];exact below_then HBL.out HBL.out.size (fillW_below w1)⟩
 have cB0:w2.cell? ⟨B,0,none⟩ = some (.map (some Bi)):=(blk_cell HBD2.out.blk 0).trans rfl
 have e_:fillW w1 = (w1.alloc (.map #[] 0)).alloc (.cells #[.map (some base)] 179):=by rw [hbase]
 rw [← hbase,← e_,← hw2]
 clear hw2 hbase HBD HBL e_ hmm HPL
 go_wp2_with (at_range;refine wp_range _ rfl _ 141 139 rfl Try.underlying141 Bi n gi rfl HBD2.out.mi ?_;intro w3 cnt hrg hg3 hs3;rw [HS2.out] at hrg ⊢;have HFB0:=Aside0.mk (HST.out w3 cnt hrg hg3);have HB3:=Aside0.mk (HB2.out.grown hg3 (Nat.le_trans HLO.out (by rw [HS2.out];omega)) (fun k hk=>by cases hk));have HB3s:Aside0 (base ≤ w3.heap.size):=⟨by have h1:=HS2.out;omega⟩;clear hrg hg3 hs3)
 clear cB0
 go_frame
 go_loopg [5] cnt (fun m v5 wr=>∃ (va:Value) (left:Int → Bool) (cn:Nat) (D:List S87) (gm:Int → Option Value),va = v5 ∧ Aside0 (cn ≤ m) ∧ Aside0 (D.Perm (b.its.filter (fun y=>!left y.f0))) ∧ Aside0 (FillB w.heap.size base B Bi Ba n (base + 1) base (base + 2) D.length gi ga b left cn gm wr) ∧ Aside0 (FillR base (slOf ga) gm wr va D D) ∧ Aside0 (Below w.heap.size w wr) ∧ Aside0 (base ≤ wr.heap.size))
 case atStart =>
  refine ⟨_,_,cnt,[],_,rfl,⟨Nat.le_refl _⟩,⟨?_⟩,HFB0,⟨FillR.start _ _ _⟩,HB3,HB3s⟩
  have:b.its.filter (fun y=>!(gi y.f0).isSome) = []:=List.filter_eq_nil_iff.2 fun y hy=>by
   rw [(HBD2.out.it y.f0).1,HBK.out.it_of hy]
   simp
  rw [this]
 case round =>
  obtain ⟨va,left,cn,D,gm,rfl,HC,HD,HFB,HFR,HB,HBS⟩:=hrel
  clear HB3 HB3s HFB0 HB2 HST HS2
  go_wp2_with (at_next;refine wp_next _ rfl _ rfl Bi (base + 2) n gi left cn rfl HFB.out.rg ?_ ?_)
  ·intro hl0
   have HDP:=Aside0.mk (left_done HD.out hl0)
   have hmm:=@run_makeMap Try.prog
   clear hl0 HC
   obtain ⟨nV,hnV⟩:∃ m,m = D.length:=⟨_,rfl⟩
   obtain ⟨AV,cV,eva,hcV⟩:=HFR.out.ra.slice
   rw [List.length_map,← hnV] at eva hcV
   subst eva
   have HNV:Aside0 (nV = D.length ∧ nV ≤ 1073741824 ∧ nV = (sortB ltN b.its).length ∧ D.Perm b.its):=⟨by
    have h1:=HDP.out.length_eq
    have h2:=(sortB_perm ltN b.its).length_eq
    have h3:=HLN.out
    exact ⟨hnV,by omega,by omega,HDP.out⟩⟩
   clear hnV hcV HDP HD
   go_upto_region 14 with (fail)
   obtain ⟨w5,hw5⟩:∃ W,W = walkW wr (base + 1):=⟨_,rfl⟩
   obtain ⟨m0,hm0⟩:∃ m,m = wr.heap.size:=⟨_,rfl⟩
   have HWS:Aside0 (WalkS base base (base + 1) m0 (m0 + 1 + 1) (m0 + 1 + 1 + 1) (m0 + 1) D.length gm (slOf ga) b (.slice AV nV cV) D (fun _=>False) w5 (.slice none 0 0) [] (fun _=>none)):=⟨by rw [hw5,hm0];exact WalkS.start HFB.out HFR.out HNV.out.2.2.2 HBS.out⟩
   have HB5:Aside0 (Below w.heap.size w w5):=⟨by rw [hw5];exact below_then HB.out (Nat.le_trans HLO.out HBS.out) (walkW_below _ _)⟩
   have HL5:Aside0 (w.heap.size ≤ w5.heap.size):=⟨HB5.out.size⟩
   have HAT5:Aside0 (∀ i,AtV w5 w.heap.size ((ga i).getD (.slice none 0 0)) (b.atD i)):=⟨by rw [hw5];exact (HFB.out.move (Kp.below (walkW_below _ _))).ats⟩
   have HVT:Aside0 (visitF (b.its.length + 1) b 0 [] = some (shownL b)):=⟨by
    have h1:=tree_len HBK.out (b.its.length + 1) 0
    have h2:=HLN.out
    have:=visit_tree HBK.out (b.its.length + 1) 0 0 (.stop (Int.le_refl _)) (by omega) [] (by simp only [List.length_nil];omega)
    rw [this]
    rfl⟩
   have HM0:Aside0 (base ≤ m0):=⟨by rw [hm0];exact HBS.out⟩
   have e_:walkW wr (base + 1) = (((wr.alloc (.cells #[.slice none 0 0] 70)).alloc (.map #[] 0)).alloc (.cells #[.map (some (m0 + 1))] 133)).alloc (.cells #[.func (.func 108) #[] #[.pointer (some ⟨base + 1,0,none⟩),.pointer (some ⟨m0,0,none⟩),.pointer (some ⟨m0 + 1 + 1,0,none⟩),.pointer (some ⟨m0 + 1 + 1 + 1,0,none⟩)]] 174):=by rw [hm0]
   rw [← hm0,← e_,← hw5]
   have cwb:w5.cell? ⟨m0 + 1 + 1 + 1,0,none⟩ = some (.func (.func 108) #[] #[.pointer (some ⟨base + 1,0,none⟩),.pointer (some ⟨m0,0,none⟩),.pointer (some ⟨m0 + 1 + 1,0,none⟩),.pointer (some ⟨m0 + 1 + 1 + 1,0,none⟩)]):=(blk_cell HWS.out.wb 0).trans rfl
   clear hw5 hm0 e_ hmm HFB HFR HB HBS
   go_upto_region 15 with (go_at_call 108;(with_reducible refine (walk_calls HLO.out HBK.out HWF.out (b.its.length + 1) 0 [] (shownL b) w5 _ _ _ (by decide) HL5.out HLN.out HWS.out HVT.out).mono ?_);rintro e6 w6 ⟨rfl,done6,vo6,gs6,hd6,hW6,hF6⟩;have HW6:=Aside0.mk hW6;have HF6:=Aside0.mk hF6;clear hd6 hW6 hF6)
   have HAT6:Aside0 (∀ i,AtV w6 w.heap.size ((ga i).getD (.slice none 0 0)) (b.atD i)):=⟨fun i=>AtV.move (HAT5.out i) HF6.out.at91⟩
   have HB6:=Aside0.mk (HB5.out.trans HF6.out.bel)
   have HS6:Aside0 (base ≤ w6.heap.size):=⟨by have h1:=blk_lt HW6.out.ob;have h2:=HM0.out;omega⟩
   have HGS:=Aside0.mk HW6.out.gsE
   have HSRT:Aside0 (Calls Try.prog 109 #[.slice AV nV cV,.func (.func 114) #[] #[]] w6 fun e w'=>e = .returned (.tuple #[]) ∧ RestS base m0 (m0 + 1 + 1) (m0 + 1) (shownL b).length gs6 (slOf ga) (.slice AV nV cV) (sortB ltN b.its) w' vo6 (shownL b) ∧ (∀ i,AtV w' w.heap.size ((ga i).getD (.slice none 0 0)) (b.atD i)) ∧ Below w.heap.size w w' ∧ base ≤ w'.heap.size):=by
    refine ⟨(sort_calls 114 cmpN swoN (enters_of Try.func114 (by kernel_rfl) rfl) cmpn_calls _ base _ w6 HW6.out.ra (by rw [List.length_map];have:=HNV.out;omega)).mono ?_⟩
    rintro e w' ⟨rfl,L1,h1,h2,h3,h4⟩
    obtain rfl:=sorted_all HBK.out (slOf ga) HNV.out.2.2.2 h1 h2
    have hkp:=Kp.of HW6.out.ra h4
    refine ⟨rfl,HW6.out.rest h4 h3,fun i=>AtV.move (HAT6.out i) (fun k cells hc=>(hkp k _ hc (fun _ e=>by injection e with _ e;exact absurd e (by decide))).trans hc.symm),HB6.out.grown h4 (Nat.le_trans HLO.out HS6.out) (fun k hk=>Nat.le_trans HLO.out (HW6.out.ra.cells hk).1),Nat.le_trans HS6.out h4.size⟩
   obtain ⟨S0,hS0⟩:∃ L,L = shownL b:=⟨_,rfl⟩
   obtain ⟨L0,hL0⟩:∃ L,L = sortB ltN b.its:=⟨_,rfl⟩
   have HOE:Aside0 (orderL b = S0 ++ L0.filter (fun x=>!isIn S0 x.f0)):=⟨by rw [hS0,hL0];rfl⟩
   have HWL:Aside0 (∀ x ∈ L0,(Lit.int .i64 x.f0).wf = true):=⟨fun x hx=>HWF.out x ((sortB_perm ltN b.its).mem_iff.1 (hL0 ▸ hx))⟩
   have HNL:Aside0 (nV = L0.length ∧ nV ≤ 1073741824 ∧ S0.length ≤ 1073741824):=⟨by have h1:=HNV.out;rw [hL0,hS0];have h2:=tree_len HBK.out (b.its.length + 1) 0;have h3:=HLN.out;exact ⟨h1.2.2.1,h1.2.1,Nat.le_trans h2 h3⟩⟩
   rw [← hS0,← hL0] at HSRT
   rw [← hS0] at HGS
   clear cwb hS0 hL0 HWS HB5 HL5 HAT5 HVT HW6 HF6 HAT6 HB6 HS6 HNV
   go_wp2_with (go_at_call 109;(with_reducible refine HSRT.out.mono ?_);rintro e7 w7 ⟨rfl,hR7,hA7,hB7,hS7⟩;have HR7:=Aside0.mk hR7;have HA7:=Aside0.mk hA7;have HB7:=Aside0.mk hB7;have HS7:=Aside0.mk hS7;clear hR7 hA7 hB7 hS7)
   clear HSRT
   go_loopg [65] nV (fun m v65 wx=>∃ (j:Nat) (vo:Value),v65 = .int .i64 (j:Int) ∧ Aside0 (m + j = nV) ∧ Aside0 (RestS base m0 (m0 + 1 + 1) (m0 + 1) S0.length gs6 (slOf ga) (.slice AV nV cV) L0 wx vo (S0 ++ (L0.take j).filter (fun x=>!isIn S0 x.f0))) ∧ Aside0 (∀ i,AtV wx w.heap.size ((ga i).getD (.slice none 0 0)) (b.atD i)) ∧ Aside0 (Below w.heap.size w wx) ∧ Aside0 (base ≤ wx.heap.size))
   case atStart=>exact ⟨0,vo6,rfl,⟨rfl⟩,⟨by simpa using HR7.out⟩,HA7,HB7,HS7⟩
   case round =>
    obtain ⟨j,vo,rfl,HJ,HR,HA,HB,HS⟩:=hrel
    clear HR7 HA7 HB7 HS7
    have cob:wr.cell? ⟨m0,0,none⟩ = some vo:=(blk_cell HR.out.ob 0).trans rfl
    by_cases d1:j < nV
    rotate_left
    ·have g1:decide ((j:Int) < (nV:Int)) = false:=decide_eq_false (by omega)
     have g1':decide (j < nV) = false:=decide_eq_false d1
     have HX:Aside0 (RestS base m0 (m0 + 1 + 1) (m0 + 1) S0.length gs6 (slOf ga) (.slice AV nV cV) L0 wr vo (orderL b)):=⟨by
      have h1:=HR.out
      rw [List.take_of_length_le (by have:=HNL.out.1;omega)] at h1
      rw [HOE.out]
      exact h1⟩
     clear d1
     go_wp2
     go_ret
     exact ⟨vo,rfl,rows_R HLO.out HX.out.ro HA.out,HB.out⟩
    have g1:decide ((j:Int) < (nV:Int)) = true:=decide_eq_true (by omega)
    have g1':decide (j < nV) = true:=decide_eq_true d1
    have q1:(j:Int) < (nV:Int):=by omega
    obtain ⟨gl,rfl⟩:∃ gl,gk = gl + 1:=⟨gk - 1,by have:=HJ.out;omega⟩
    have hjl:j < L0.length:=by have:=HNL.out.1;omega
    obtain ⟨x,hx⟩:∃ x,x = L0[j]'hjl:=⟨_,rfl⟩
    have HXM:Aside0 ((Lit.int .i64 x.f0).wf = true):=⟨HWL.out x (hx ▸ List.getElem_mem hjl)⟩
    obtain ⟨ad,eA,x0,x1,x2,x3⟩:=HR.out.ra.at j (by rw [List.length_map];exact hjl)
    subst eA
    have hxe:(L0.map (mk4 (slOf ga)))[j]'(by rw [List.length_map];exact hjl) = mk4 (slOf ga) x:=by rw [List.getElem_map,← hx]
    rw [hxe] at x0 x1 x2 x3
    replace x0:wr.cell? (ad.add (j * 4)) = some (.int .i64 x.f0):=x0
    replace x1:wr.cell? ⟨(ad.add (j * 4)).block,(ad.add (j * 4)).off + 1,none⟩ = some (.int .i64 x.f1):=x1
    replace x2:wr.cell? ⟨(ad.add (j * 4)).block,(ad.add (j * 4)).off + 2,none⟩ = some (.string x.f2):=x2
    obtain ⟨SA,hSA⟩:∃ S,S = (mk4 (slOf ga) x).A:=⟨_,rfl⟩
    obtain ⟨Sn,hSn⟩:∃ S,S = (mk4 (slOf ga) x).n:=⟨_,rfl⟩
    obtain ⟨Sc,hSc⟩:∃ S,S = (mk4 (slOf ga) x).c:=⟨_,rfl⟩
    have HSL:Aside0 (mk4 (slOf ga) x = ⟨x.f0,x.f1,x.f2,SA,Sn,Sc⟩):=⟨by rw [hSA,hSn,hSc];rfl⟩
    rw [← hSA,← hSn,← hSc] at x3
    have HTK:Aside0 ((L0.take (j + 1)).filter (fun x=>!isIn S0 x.f0) = (L0.take j).filter (fun x=>!isIn S0 x.f0) ++ (if isIn S0 x.f0 = true then [] else [x])):=⟨by
     rw [List.take_succ_eq_append_getElem hjl,← hx,List.filter_append]
     congr 1
     rw [List.filter_cons,List.filter_nil]
     cases isIn S0 x.f0 <;> rfl⟩
    have HOL:Aside0 ((S0 ++ (L0.take j).filter (fun x=>!isIn S0 x.f0)).length ≤ 2147483648):=⟨by
     rw [List.length_append]
     have h1:=List.length_filter_le (fun x:S87=>!isIn S0 x.f0) (L0.take j)
     have h2:(L0.take j).length ≤ j:=List.length_take_le _ _
     have h3:=HNL.out
     omega⟩
    obtain ⟨out1,ho1⟩:∃ o,o = S0 ++ (L0.take j).filter (fun x=>!isIn S0 x.f0):=⟨_,rfl⟩
    have HTO:Aside0 (S0 ++ (L0.take (j + 1)).filter (fun x=>!isIn S0 x.f0) = out1 ++ (if isIn S0 x.f0 = true then [] else [x])):=⟨by rw [HTK.out,ho1,List.append_assoc]⟩
    rw [← ho1] at HR HOL
    clear hx hxe hSA hSn hSc hjl ho1 HTK
    go_upto_region 19 with (fail)
    obtain ⟨w8,hw8⟩:∃ W,W = wr.alloc (Obj.cells #[.int .i64 x.f0,.int .i64 x.f1,.string x.f2,.slice SA Sn Sc] 87):=⟨_,rfl⟩
    obtain ⟨g,hgn⟩:∃ g,g = wr.heap.size:=⟨_,rfl⟩
    have hbl:Below wr.heap.size wr w8:=by rw [hw8];exact below_alloc (Below.refl _ _) _
    have HG8:Aside0 (w8.heap[g]? = some (.cells #[.int .i64 x.f0,.int .i64 x.f1,.string x.f2,.slice SA Sn Sc] 87 (0,0))):=⟨by rw [hw8,hgn];exact blk_new wr _⟩
    have HR8:=Aside0.mk (HR.out.below hbl)
    have HA8:Aside0 (∀ i,AtV w8 w.heap.size ((ga i).getD (.slice none 0 0)) (b.atD i)):=⟨fun i=>AtV.move (HA.out i) (fun k cells hc=>hbl.block k (blk_lt hc))⟩
    have HB8:=Aside0.mk (below_then HB.out (Nat.le_trans HLO.out HS.out) hbl)
    have HS8:Aside0 (base ≤ w8.heap.size):=⟨Nat.le_trans HS.out hbl.size⟩
    rw [← hw8,← hgn]
    have wk:wrap64 ((j:Int) + 1) = (j:Int) + 1:=by have:=HNL.out.2.1;unfold wrap64;omega
    have HWK:=Aside0.mk wk
    have csb:w8.cell? ⟨m0 + 1 + 1,0,none⟩ = some (.map (some (m0 + 1))):=(blk_cell HR8.out.sb 0).trans rfl
    have cob8:w8.cell? ⟨m0,0,none⟩ = some vo:=(blk_cell HR8.out.ob 0).trans rfl
    have cg0:w8.cell? ⟨g,0,none⟩ = some (.int .i64 x.f0):=(blk_cell HG8.out 0).trans rfl
    have cg1:w8.cell? ⟨g,1,none⟩ = some (.int .i64 x.f1):=(blk_cell HG8.out 1).trans rfl
    have cg2:w8.cell? ⟨g,2,none⟩ = some (.string x.f2):=(blk_cell HG8.out 2).trans rfl
    have cg3:w8.cell? ⟨g,3,none⟩ = some (.slice SA Sn Sc):=(blk_cell HG8.out 3).trans rfl
    clear hw8 hgn hbl HR HA HB HS x0 x1 x2 x3 cob wk
    cases hin:isIn S0 x.f0 with
    | true =>
     have HLK:Aside0 ((gs6 x.f0).getD (.bool false) = .bool true):=⟨by rw [HGS.out,hin];rfl⟩
     have HT2:Aside0 (S0 ++ (L0.take (j + 1)).filter (fun x=>!isIn S0 x.f0) = out1):=⟨by rw [HTO.out,hin];simp⟩
     clear hin
     go_wp2_with (at_lookup;refine wp_look _ rfl _ _ 133 4 rfl Try.underlying133 _ (zero4 _) (m0 + 1) S0.length gs6 rfl HR8.out.ms x.f0 rfl HXM.out _ HLK.out ?_)
     have wk:=HWK.out
     go_roundg gl
     case measure=>omega
     case rel=>exact ⟨j + 1,vo,by simp [wk],⟨by have:=HJ.out;omega⟩,⟨by rw [HT2.out];exact HR8.out⟩,HA8,HB8,HS8⟩
    | false =>
     have HLK:Aside0 ((gs6 x.f0).getD (.bool false) = .bool false):=⟨by rw [HGS.out,hin];rfl⟩
     have HT2:Aside0 (S0 ++ (L0.take (j + 1)).filter (fun x=>!isIn S0 x.f0) = out1 ++ [x]):=⟨by rw [HTO.out,hin];rfl⟩
     clear hin
     go_wp2_with (first | (at_lookup;refine wp_look _ rfl _ _ 133 4 rfl Try.underlying133 _ (zero4 _) (m0 + 1) S0.length gs6 rfl HR8.out.ms x.f0 rfl HXM.out _ HLK.out ?_) | (at_builtin;refine print_append_cells (w0:=w8) (W:=w8) base rfl (.tmp 74) (.tmp 76) 70 87 (.agg #[.int .i64 0,.int .i64 0,.string ⟨#[]⟩,.slice none 0 0]) 4 56 rfl Try.underlying70 info87i rfl (by decide) (by decide) vo (out1.map (mk4 (slOf ga))).length ((out1.map (mk4 (slOf ga))).flatMap enc4) [.int .i64 x.f0,.int .i64 x.f1,.string x.f2,.slice SA Sn Sc] rfl rfl rfl (by simp [Value.oneCell']) HR8.out.ro (Below.refl _ _) HS8.out (by have:=HOL.out;rw [List.length_map];omega) ?_;intro vn w9 hr9 hb9 hg9 ha9;have hR9:RowIs w9 base vn ((out1 ++ [x]).map (mk4 (slOf ga))):=rowSnoc HSL.out hr9;obtain ⟨AN,nN,cN,ev⟩:∃ A m c,vn = .slice A m c:=(by obtain ⟨A,c,e,_⟩:=hR9.slice;exact ⟨A,_,c,e⟩);subst ev;have HR9:=Aside0.mk (HR8.out.append hR9 hg9 ha9);have HKP:=Aside0.mk (Kp.of HR8.out.ro hg9);have HB9:=Aside0.mk (HB8.out.grown hg9 (Nat.le_trans HLO.out HS8.out) (fun k hk=>Nat.le_trans HLO.out (HR8.out.ro.cells hk).1));have HS9:Aside0 (base ≤ w9.heap.size):=⟨Nat.le_trans HS8.out hg9.size⟩;have cob9:w9.cell? ⟨m0,0,none⟩ = some vo:=(blk_cell HR9.out.1 0).trans rfl;have cobf:=blk_frozen HR9.out.1 0;clear hr9 hb9 hg9 ha9 hR9 csb cob8 cg0 cg1 cg2 cg3))
     have wk:=HWK.out
     go_roundg gl
     case measure=>omega
     case rel =>
      refine ⟨j + 1,.slice AN nN cN,by simp [wk],⟨by have:=HJ.out;omega⟩,⟨by rw [HT2.out];exact HR9.out.2⟩,⟨fun i=>AtV.move (HA8.out i) (fun k cells hc=>?_)⟩,⟨HB9.out.setCell (by have h1:=HM0.out;have h2:=HLO.out;simp only;omega) _⟩,⟨by have:=HS9.out;simpa using this⟩⟩
      have hk:=HKP.out k _ hc (fun _ e=>by injection e with _ e;exact absurd e (by decide))
      refine ((Below.heap_setCell w9 ⟨m0,0,none⟩ (.slice AN nN cN) k (fun e=>?_)).trans hk).trans hc.symm
      rw [show k = m0 from e,HR9.out.1] at hk
      injection hk with hk
      injection hk with _ hk
      exact absurd hk (by decide)
  ·intro i v w4 cn4 hwf hlf hgi hrg4 hlt hg4 hs4 hen
   obtain ⟨x,hx⟩:∃ x,b.it i = some x:=Option.isSome_iff_exists.1 (by rw [← (HFB.out.its i).1,hgi];rfl)
   obtain rfl:=it_f0 hx
   obtain ⟨hw1,p,u,rfl,hlp,hpb,hpk⟩:=(HFB.out.its x.f0).2 v x hgi hx
   obtain ⟨_,_,_,hit⟩:=HFB.out.rg.iter
   have HP4:Aside0 (w4.heap[p]? = some (.cells #[.int .i64 x.f0,.int .i64 x.f1,.string x.f2,u] 87 (0,0))):=⟨(hg4.block p (blk_lt hpk) (fun e=>by injection e with e;omega)).trans hpk⟩
   have HFB4:=Aside0.mk (HFB.out.next hrg4 hg4)
   have HFR4:=Aside0.mk (HFR.out.next HFB.out.rg hg4)
   have HB4:=Aside0.mk (HB.out.grown hg4 (Nat.le_trans HLO.out HBS.out) (fun k hk=>by cases hk;have:=HLO.out;omega))
   have HS4:Aside0 (base ≤ w4.heap.size):=⟨by have:=HBS.out;have:=hg4.size;omega⟩
   have HX:=Aside0.mk (And.intro (it_mem hx).1 (And.intro hlf hw1))
   have HPB:=Aside0.mk (And.intro hlp hpb)
   have HWI:=Aside0.mk hwf
   have HLT:=Aside0.mk hlt
   have HD4:=Aside0.mk (left_step HD.out HBK.out.nd (it_mem hx).1 hlf)
   obtain ⟨SA,Sc,hat,_⟩:=(HFB.out.ats x.f0).reads
   obtain ⟨Sn,hSn⟩:∃ m,m = (b.atD x.f0).length:=⟨_,rfl⟩
   rw [← hSn] at hat
   have HLK:=Aside0.mk hat
   have HSL:Aside0 (mk4 (slOf ga) x = ⟨x.f0,x.f1,x.f2,SA,Sn,Sc⟩):=⟨by unfold mk4 slOf;rw [hat]⟩
   have cB1:w4.cell? ⟨B,1,none⟩ = some (.map (some Ba)):=(blk_cell HFB4.out.blk 1).trans rfl
   have cp3:w4.cell? ⟨p,3,none⟩ = some u:=(blk_cell HP4.out 3).trans rfl
   have cpf:=blk_frozen HP4.out 3
   clear hx hw1 hlp hpb hpk hit hwf hlf hgi hrg4 hlt hg4 hs4 hSn hat HFB HFR HB HBS HD
   go_upto_region 8 with (at_lookup;refine wp_look _ rfl _ _ 142 24 rfl Try.underlying142 _ (zero24 _) Ba n ga rfl HFB4.out.ma x.f0 rfl HWI.out _ HLK.out ?_)
   clear hen cB1 cp3 cpf
   obtain ⟨w5,hw5⟩:∃ W,W = w4.setCell ⟨p,3,none⟩ (.slice SA Sn Sc):=⟨_,rfl⟩
   have HP5:Aside0 (w5.drew.heap[p]? = some (.cells #[.int .i64 x.f0,.int .i64 x.f1,.string x.f2,.slice SA Sn Sc] 87 (0,0))):=⟨by rw [hw5];exact blk_drew (by have:=blk_set HP4.out 3 (.slice SA Sn Sc);simpa using this)⟩
   have HFB5:Aside0 (FillB w.heap.size base B Bi Ba n (base + 1) base (base + 2) D.length gi ga b (fun j=>left j && !decide (j = x.f0)) cn4 gm w5.drew):=⟨by rw [hw5];exact (HFB4.out.store HP4.out _).move (Kp.below (below_drew (Below.refl _ _)))⟩
   have HFR5:Aside0 (FillR base (slOf ga) gm w5.drew va D D):=⟨by rw [hw5];exact (HFR4.out.store HPB.out.2 _ _).below (below_drew (Below.refl _ _))⟩
   have HB5:Aside0 (Below w.heap.size w w5.drew):=⟨by rw [hw5];exact below_drew (HB4.out.setCell HPB.out.1 _)⟩
   have HS5:Aside0 (base ≤ w5.drew.heap.size):=⟨by rw [hw5];have:=HS4.out;simpa using this⟩
   rw [← hw5]
   clear hw5 HP4 HFB4 HFR4 HB4 HS4
   obtain ⟨vk,hvk⟩:∃ v,v = (gm x.f1).getD (.slice none 0 0):=⟨_,rfl⟩
   have HVK:=Aside0.mk hvk.symm
   have HRK:Aside0 (RowIs w5.drew base vk ((D.filter (fun y:S87=>y.f1 == x.f1)).map (mk4 (slOf ga)))):=⟨by rw [hvk];exact HFR5.out.kids x.f1⟩
   have HDL:Aside0 (D.length ≤ 1073741824 ∧ (D.filter (fun y:S87=>y.f1 == x.f1)).length ≤ 1073741824):=⟨by
    have h1:=HD4.out.length_eq
    have h2:=List.length_filter_le (fun y=>!(left y.f0 && !decide (y.f0 = x.f0))) b.its
    have h3:=List.length_filter_le (fun y:S87=>y.f1 == x.f1) D
    have:=HLN.out
    rw [List.length_append] at h1
    omega⟩
   clear hvk
   refine start_ (n:=17) (S:=fun w'=>w'.cell? ⟨base + 1,0,none⟩ = some (.map (some base)) ∧ w'.cell? ⟨p,0,none⟩ = some (.int .i64 x.f0) ∧ w'.cell? ⟨p,1,none⟩ = some (.int .i64 x.f1) ∧ w'.cell? ⟨p,2,none⟩ = some (.string x.f2) ∧ w'.cell? ⟨p,3,none⟩ = some (.slice SA Sn Sc) ∧ Sem.run Try.prog (Instr.lookup 179 (.map (some base)) (.int .i64 x.f1) false) w' = .ok vk w') (ds:=[16]) #[false,false,false,false,false,false,false,false,false,false,false,false,false,false,false,false,false] (by kernel_rfl) rfl rfl ⟨((blk_cell HFB5.out.kb 0).trans rfl),((blk_cell HP5.out 0).trans rfl),((blk_cell HP5.out 1).trans rfl),((blk_cell HP5.out 2).trans rfl),((blk_cell HP5.out 3).trans rfl),(MapV.run HFB5.out.mK Try.underlying179 (zero70 _) x.f1 HX.out.2.2 HVK.out)⟩ (fun hHeld=>?_)
   refine pure_ (i:=1) (N:=some 36) (v:=?_) (a':=?_) (bm 2 17) rfl rfl (by kernel_rfl) (fun _ _ _ h=>h) (Or.inl ⟨by rfl,?_⟩) ?_ ?_
   rotate_left
   ·intro w'
    go_simp
    with_reducible rfl
   rotate_left
   ·simp only [Act.put,sA,sB,sC,i64_w,i32_w]
    rfl
   refine pure_ (i:=2) (N:=some 37) (v:=?_) (a':=?_) (bm 6 17) rfl rfl (by kernel_rfl) (fun _ _ _ h=>h) (Or.inl ⟨by rfl,?_⟩) ?_ ?_
   rotate_left
   ·intro w'
    go_simp
    with_reducible rfl
   rotate_left
   ·simp only [Act.put,sA,sB,sC,i64_w,i32_w]
    rfl
   refine pure_ (i:=3) (N:=some 38) (v:=?_) (a':=?_) (bm 14 17) rfl rfl (by kernel_rfl) (fun _ _ _ h=>h) (Or.inl ⟨by rfl,?_⟩) ?_ ?_
   rotate_left
   ·intro w'
    go_simp
    with_reducible rfl
   rotate_left
   ·simp only [Act.put,sA,sB,sC,i64_w,i32_w]
    rfl
   refine pure_ (i:=6) (N:=some 41) (v:=?_) (a':=?_) (bm 78 17) rfl rfl (by kernel_rfl) (fun _ _ _ h=>h) (Or.inl ⟨by rfl,?_⟩) ?_ ?_
   rotate_left
   ·intro w'
    go_simp
    with_reducible rfl
   rotate_left
   ·simp only [Act.put,sA,sB,sC,i64_w,i32_w]
    rfl
   refine pure_ (i:=7) (N:=some 42) (v:=?_) (a':=?_) (bm 206 17) rfl rfl (by kernel_rfl) (fun _ _ _ h=>h) (Or.inl ⟨by rfl,?_⟩) ?_ ?_
   rotate_left
   ·intro w'
    go_simp
    with_reducible rfl
   rotate_left
   ·simp only [Act.put,sA,sB,sC,i64_w,i32_w]
    rfl
   refine pure_ (i:=8) (N:=some 43) (v:=?_) (a':=?_) (bm 462 17) rfl rfl (by kernel_rfl) (fun _ _ _ h=>h) (Or.inl ⟨by rfl,?_⟩) ?_ ?_
   rotate_left
   ·intro w'
    go_simp
    with_reducible rfl
   rotate_left
   ·simp only [Act.put,sA,sB,sC,i64_w,i32_w]
    rfl
   refine pure_ (i:=11) (N:=some 46) (v:=?_) (a':=?_) (bm 2510 17) rfl rfl (by kernel_rfl) (fun _ _ _ h=>h) (Or.inl ⟨by rfl,?_⟩) ?_ ?_
   rotate_left
   ·intro w'
    go_simp
    with_reducible rfl
   rotate_left
   ·simp only [Act.put,sA,sB,sC,i64_w,i32_w]
    rfl
   refine pure_ (i:=12) (N:=some 47) (v:=?_) (a':=?_) (bm 6606 17) rfl rfl (by kernel_rfl) (fun _ _ _ h=>h) (Or.inl ⟨by rfl,?_⟩) ?_ ?_
   rotate_left
   ·intro w'
    go_simp
    with_reducible rfl
   rotate_left
   ·simp only [Act.put,sA,sB,sC,i64_w,i32_w]
    rfl
   refine take_ (i:=0) (N:=some 35) (v:=?_) (a':=?_) (bm 6607 17) rfl rfl (by kernel_rfl) (fun _ _ _ h=>h) (Or.inl ⟨by rfl,?_⟩) hHeld ?_ ?_
   rotate_left
   ·rintro w' ⟨s0,s1,s2,s3,s4,s5⟩
    go_simp
    with_reducible rfl
   rotate_left
   ·simp only [Act.put,sA,sB,sC,i64_w,i32_w]
    rfl
   refine take_ (i:=4) (N:=some 39) (v:=?_) (a':=?_) (bm 6623 17) rfl rfl (by kernel_rfl) (fun _ _ _ h=>h) (Or.inl ⟨by rfl,?_⟩) hHeld ?_ ?_
   rotate_left
   ·rintro w' ⟨s0,s1,s2,s3,s4,s5⟩
    go_simp
    with_reducible rfl
   rotate_left
   ·simp only [Act.put,sA,sB,sC,i64_w,i32_w]
    rfl
   refine take_ (i:=5) (N:=some 40) (v:=?_) (a':=?_) (bm 6655 17) rfl rfl (by kernel_rfl) (fun _ _ _ h=>h) (Or.inl ⟨by rfl,?_⟩) hHeld ?_ ?_
   rotate_left
   ·rintro w' ⟨s0,s1,s2,s3,s4,s5⟩
    go_simp
    with_reducible rfl
   rotate_left
   ·simp only [Act.put,sA,sB,sC,i64_w,i32_w]
    rfl
   refine take_ (i:=9) (N:=some 44) (v:=?_) (a':=?_) (bm 7167 17) rfl rfl (by kernel_rfl) (fun _ _ _ h=>h) (Or.inl ⟨by rfl,?_⟩) hHeld ?_ ?_
   rotate_left
   ·rintro w' ⟨s0,s1,s2,s3,s4,s5⟩
    go_simp
    with_reducible rfl
   rotate_left
   ·simp only [Act.put,sA,sB,sC,i64_w,i32_w]
    rfl
   refine take_ (i:=10) (N:=some 45) (v:=?_) (a':=?_) (bm 8191 17) rfl rfl (by kernel_rfl) (fun _ _ _ h=>h) (Or.inl ⟨by rfl,?_⟩) hHeld ?_ ?_
   rotate_left
   ·rintro w' ⟨s0,s1,s2,s3,s4,s5⟩
    go_simp
    with_reducible rfl
   rotate_left
   ·simp only [Act.put,sA,sB,sC,i64_w,i32_w]
    rfl
   refine take_ (i:=13) (N:=some 48) (v:=?_) (a':=?_) (bm 16383 17) rfl rfl (by kernel_rfl) (fun _ _ _ h=>h) (Or.inl ⟨by rfl,?_⟩) hHeld ?_ ?_
   rotate_left
   ·rintro w' ⟨s0,s1,s2,s3,s4,s5⟩
    go_simp
    with_reducible rfl
   rotate_left
   ·simp only [Act.put,sA,sB,sC,i64_w,i32_w]
    rfl
   refine one_ (i:=14) (N:=some 49) (bm 32767 17) rfl rfl (by kernel_rfl) (by decide) (fun K hK=>?_)
   refine value_ (w1:=?_) (v:=?_) (by rfl) rfl ?_ ?_
   rotate_left 2
   ·go_simp
    constructor
    ·rfl
    ·rfl
   refine hK.out _ _ ⟨((blk_cell (blk_alloc HFB5.out.kb _) 0).trans rfl),((blk_cell (blk_alloc HP5.out _) 0).trans rfl),((blk_cell (blk_alloc HP5.out _) 1).trans rfl),((blk_cell (blk_alloc HP5.out _) 2).trans rfl),((blk_cell (blk_alloc HP5.out _) 3).trans rfl),(MapV.run (HFB5.out.mK.block ((below_alloc (Below.refl _ _) _).block _ HFB5.out.mK.lt)) Try.underlying179 (zero70 _) x.f1 HX.out.2.2 HVK.out)⟩ (fun hHeld=>?_)
   clear hK K
   refine norm_ (a':=?_) ?_ ?_
   rotate_left
   ·show Act.put _ (some 49) _ = _
    simp only [Act.put,sA,sB,sC,i64_w,i32_w]
    rfl
   refine one_ (i:=15) (N:=some 50) (bm 65535 17) rfl rfl (by kernel_rfl) (by decide) (fun K hK=>?_)
   refine step_append_cells (P:=Try.prog) (w0:=w5.drew) (W:=w5.drew) base (by rfl) (.tmp 45) (.tmp 49) 70 87 (.agg #[.int .i64 0,.int .i64 0,.string ⟨#[]⟩,.slice none 0 0]) 4 56 rfl Try.underlying70 info87i rfl (by decide) (by decide) vk ((D.filter (fun y:S87=>y.f1 == x.f1)).map (mk4 (slOf ga))).length (((D.filter (fun y:S87=>y.f1 == x.f1)).map (mk4 (slOf ga))).flatMap enc4) [.int .i64 x.f0,.int .i64 x.f1,.string x.f2,.slice SA Sn Sc] rfl rfl rfl (by simp [Value.oneCell']) HRK.out (Below.refl _ _) HS5.out (by have:=HDL.out.2;rw [List.length_map];omega) ?_
   intro vn w6 hr6 hb6 hg6 ha6
   have hR:RowIs w6 base vn ((D.filter (fun y:S87=>y.f1 == x.f1) ++ [x]).map (mk4 (slOf ga))):=rowSnoc HSL.out hr6
   have HFB6:=Aside0.mk (HFB5.out.move (Kp.of HRK.out hg6))
   have hg6':=hg6
   rw [← HVK.out] at hg6' ha6
   have HFR6:=Aside0.mk (HFR5.out.appK hR hg6' ha6)
   have HP6:=Aside0.mk (Kp.of HRK.out hg6 _ _ HP5.out (fun _ _=>HPB.out.2))
   have HB6:=Aside0.mk (HB5.out.grown hg6 (Nat.le_trans HLO.out HS5.out) (fun k hk=>Nat.le_trans HLO.out (HRK.out.cells hk).1))
   have HS6:Aside0 (base ≤ w6.heap.size):=⟨Nat.le_trans HS5.out hg6.size⟩
   clear hr6 hb6 hg6 hg6' ha6 hR HFB5 HFR5 HP5 HB5 HS5 HRK
   refine hK.out _ _ ⟨((blk_cell HFB6.out.kb 0).trans rfl),((blk_cell HP6.out 0).trans rfl),((blk_cell HP6.out 1).trans rfl),((blk_cell HP6.out 2).trans rfl),((blk_cell HP6.out 3).trans rfl),(MapV.run HFB6.out.mK Try.underlying179 (zero70 _) x.f1 HX.out.2.2 HVK.out)⟩ (fun hHeld=>?_)
   clear hK K
   refine norm_ (a':=?_) ?_ ?_
   rotate_left
   ·show Act.put _ (some 50) _ = _
    simp only [Act.put,sA,sB,sC,i64_w,i32_w]
    rfl
   refine last_ (i:=16) (N:=none) (bm 131071 17) rfl rfl (by kernel_rfl) (by decide) (fun K hK=>?_)
   obtain ⟨_,_,hmp⟩:=HFB6.out.mK.map
   have HMP:=Aside0.mk hmp
   clear hmp
   refine step_store _ (by rfl) (.tmp 35) (.tmp 39) (.tmp 50) 179 70 rfl Try.underlying179 base D.length gm rfl HFB6.out.mK (by have:=HDL.out.1;simp only [maxLen];omega) x.f1 rfl HX.out.2.2 _ rfl ?_
   intro w8 hm8 hg8 hs8
   have HFE:=Aside0.mk (And.intro (HFB6.out.put hm8 hg8) (HFR6.out.mapped HMP.out hg8))
   have HBE:=Aside0.mk (HB6.out.grown hg8 (Nat.le_trans HLO.out HS6.out) (fun k hk=>by cases hk;exact HLO.out))
   have HSE:Aside0 (base ≤ w8.heap.size):=⟨Nat.le_trans HS6.out hg8.size⟩
   have HPE:=Aside0.mk ((grown_move HMP.out hg8 _ _ _ HP6.out).trans HP6.out)
   clear hm8 hg8 hs8
   refine hK.out _ _ ?_
   clear hK K
   refine done_ (by kernel_rfl) ?_
   clear hHeld
   have cp0:w8.cell? ⟨p,0,none⟩ = some (.int .i64 x.f0):=(blk_cell HPE.out 0).trans rfl
   have cp1:w8.cell? ⟨p,1,none⟩ = some (.int .i64 x.f1):=(blk_cell HPE.out 1).trans rfl
   have cp2:w8.cell? ⟨p,2,none⟩ = some (.string x.f2):=(blk_cell HPE.out 2).trans rfl
   have cp3:w8.cell? ⟨p,3,none⟩ = some (.slice SA Sn Sc):=(blk_cell HPE.out 3).trans rfl
   go_wp2_with (at_builtin;refine print_append_cells (w0:=w8) (W:=w8) base rfl (.tmp 51) (.tmp 55) 70 87 (.agg #[.int .i64 0,.int .i64 0,.string ⟨#[]⟩,.slice none 0 0]) 4 56 rfl Try.underlying70 info87i rfl (by decide) (by decide) va (D.map (mk4 (slOf ga))).length ((D.map (mk4 (slOf ga))).flatMap enc4) [.int .i64 x.f0,.int .i64 x.f1,.string x.f2,.slice SA Sn Sc] rfl rfl rfl (by simp [Value.oneCell']) HFE.out.2.ra (Below.refl _ _) HSE.out (by have:=HDL.out.1;rw [List.length_map];omega) ?_;intro vn w9 hr9 hb9 hg9 ha9;have HR9:Aside0 (RowIs w9 base vn ((D ++ [x]).map (mk4 (slOf ga)))):=⟨rowSnoc HSL.out hr9⟩;have HFR9:=Aside0.mk (HFE.out.2.appA HR9.out hg9 ha9);have HFB9:=Aside0.mk (HFE.out.1.move (Kp.of HFE.out.2.ra hg9));have HB9:=Aside0.mk (HBE.out.grown hg9 (Nat.le_trans HLO.out HSE.out) (fun k hk=>Nat.le_trans HLO.out (HFE.out.2.ra.cells hk).1));have HS9:Aside0 (base ≤ w9.heap.size):=⟨Nat.le_trans HSE.out hg9.size⟩;clear hr9 hb9 hg9 ha9 HFE HBE HSE HPE)
   obtain ⟨gl,rfl⟩:∃ gl,gk = gl + 1:=⟨gk - 1,by have h1:=HC.out;have h2:=HLT.out;omega⟩
   go_roundg gl
   case measure=>omega
   case rel =>
    refine ⟨_,fun j=>left j && !decide (j = x.f0),cn4,D ++ [x],_,rfl,⟨by have h1:=HC.out;have h2:=HLT.out;omega⟩,HD4,⟨?_⟩,HFR9,HB9,HS9⟩
    rw [List.length_append,List.length_singleton]
    exact HFB9.out
end Go.Proofs.Ytlcodfjlbhjkbaa.PDelta
end
section
namespace Go.Proofs.Ytlcodfjlbhjkbaa.PDelta
open Go.RowKit Go.Proofs.YtlcodfjlbhjkbaaW.PrintWords Go.Proofs.YtlcodfjlbhjkbaaW.PrintLast Go.Proofs.YtlcodfjlbhjkbaaW.PrintMore
open Go.RowKit Go.Proofs.YtlcodfjlbhjkbaaW.PrintWords Go.Proofs.YtlcodfjlbhjkbaaW.PrintLast Go.Proofs.YtlcodfjlbhjkbaaW.PrintMore
end Go.Proofs.Ytlcodfjlbhjkbaa.PDelta
end
section
namespace Go.Proofs.Ytlcodfjlbhjkbaa.PDelta
open Go.RowKit Go.Maps Go.Proofs.YtlcodfjlbhjkbaaW.PrintWords Go.Proofs.YtlcodfjlbhjkbaaW.PrintLast Go.Proofs.YtlcodfjlbhjkbaaW.PrintMore
def RawIs (l:List S128) (r:List S87):Prop:=∃ k b,playF k l ⟨[],[]⟩ = some b ∧ BOK b ∧ b.its.length ≤ 1073741824 ∧ (∀ x ∈ b.its,(Lit.int .i64 x.f0).wf = true) ∧ (∀ o ∈ l,OpOK o) ∧ r = (orderL b).map (fillF b)
theorem RawIs.one {l:List S128} {r q:List S87} (h:RawIs l r) (h':RawIs l q):r = q:=by
 obtain ⟨k,b,h1,_,_,_,_,rfl⟩:=h
 obtain ⟨m,c,h2,_,_,_,_,rfl⟩:=h'
 have e:=(play_le h1 (Nat.le_max_left k m)).symm.trans (play_le h2 (Nat.le_max_right k m))
 cases e
 rfl
open Classical in
noncomputable def replica_Raw.f (l:List S128):Option (List S87):=if h:∃ r,RawIs l r then some h.choose else none
theorem rawis_f {l:List S128} {r:List S87} (h:RawIs l r):replica_Raw.f l = some r:=by
 have hx:∃ r,RawIs l r:=⟨r,h⟩
 rw [replica_Raw.f,dif_pos hx]
 exact congrArg some (RawIs.one hx.choose_spec h)
theorem replica_Raw.calls (A0:Option Addr) (c0:Nat) (l0:List S128) (r:List S87) (w:World) (hr0:Kd.C k128 w A0 l0.length l0) (hc0:l0.length ≤ c0) (h:replica_Raw.f l0 = some r) :
 Calls Try.prog 74 #[.slice A0 l0.length c0] w fun e w'=>∃ v0_:Value,e = .returned v0_ ∧ Kd.N k87 87 w' w.heap.size (fun k_=>(w.heap.size ≤ k_)) v0_ r ∧ Below w.heap.size w w':=by
 unfold replica_Raw.f at h
 split at h
 ·rename_i hx
  obtain rfl:=Option.some.inj h
  obtain ⟨k,b,h1,h2,h3,h4,h5,h6⟩:=hx.choose_spec
  rw [h6]
  refine (raw_calls k A0 c0 l0 w hr0 hc0 h5 b h1 h2 h3 h4).mono ?_
  rintro e w' ⟨v,rfl,hR,hB⟩
  exact ⟨v,rfl,Kd.R_N hR,hB⟩
 ·cases h
end Go.Proofs.Ytlcodfjlbhjkbaa.PDelta
end
section
namespace Go.Proofs.Ytlcodfjlbhjkbaa.PDelta
open Go.RowKit Go.Proofs.YtlcodfjlbhjkbaaW.PrintWords Go.Proofs.YtlcodfjlbhjkbaaW.PrintLast Go.Proofs.YtlcodfjlbhjkbaaW.PrintMore
attribute [local go_sem] max2_int min2_int max_two min_two max_three min_three max_four min_four
attribute [local go_sem high] Go.Proofs.Ytlcodfjlbhjkbaa.Ord.leq_str Go.Proofs.Ytlcodfjlbhjkbaa.Ord.gtr_str Go.Proofs.Ytlcodfjlbhjkbaa.Ord.geq_str
theorem info87:(Try.prog.info? 87).map (fun i=>(i.zero,i.size,i.bytes)) = some (some (.agg #[(.int .i64 0),(.int .i64 0),(.string ⟨#[]⟩),(.slice none 0 0)]),4,56):=by kernel_rfl
noncomputable section
def replica_Items.f (k:Nat) (l0:List (S128)):Option ((List (S87)) × Int):=(replica_Check.f k l0).bind fun t123=>(if t123 = 0 then ((replica_Raw.f l0).bind fun t124=>(some (t124,0))) else (some (([]:List (S87)),t123)))
set_option maxHeartbeats 8000000 in
set_option maxRecDepth 100000 in
theorem replica_Items.calls (k:Nat) (A0:Option Addr) (c0:Nat) (l0:List (S128)) (r1:List (S87)) (r2:Int) (w:World) (hr0:Kd.C k128 w A0 l0.length l0) (hc0:l0.length ≤ c0) (h:replica_Items.f k l0 = some (r1,r2)) :
 Calls Try.prog 37 #[.slice A0 l0.length c0] w fun e w'=>∃ v0_:Value,e = .returned (.tuple #[v0_,.int .i64 r2]) ∧ Kd.N k87 87 w' w.heap.size (fun k_=>(w.heap.size ≤ k_)) v0_ r1 ∧ Below w.heap.size w w':=by
 have HR0:=Aside0.mk hr0
 have HC0:=Aside0.mk hc0
 clear hr0 hc0
 have HB:=Aside0.mk (Below.refl w.heap.size w)
 have H:((replica_Check.f k l0).bind fun t123=>(if t123 = 0 then ((replica_Raw.f l0).bind fun t124=>(some (t124,0))) else (some (([]:List (S87)),t123)))) = some (r1,r2):=h
 clear h
 replace H:=Option.bind_eq_some_iff.mp H
 obtain ⟨t123,A20,H⟩:=H
 replace H:(if t123 = 0 then ((replica_Raw.f l0).bind fun t124=>(some (t124,0))) else (some (([]:List (S87)),t123))) = some (r1,r2):=H
 have A2:=Aside0.mk A20
 clear A20
 by_cases c3:t123 = 0
 ·rw [if_pos c3] at H
  have c3b0:(t123 == 0) = true:=beq_iff_eq.mpr c3
  have c3b1:(t123 != 0) = false:=bne_eq_false_iff_eq.mpr c3
  clear c3
  replace H:=Option.bind_eq_some_iff.mp H
  obtain ⟨t124,A40,H⟩:=H
  replace H:(some (t124,0)) = some (r1,r2):=H
  have A4:=Aside0.mk A40
  clear A40
  simp only [Option.some.injEq,Prod.mk.injEq] at H
  obtain ⟨rfl,rfl⟩:=H
  go_enter Try.func37,Try.ntmps37
  go_wp2_with (first | ((with_reducible refine gate_callee (f:=72) rfl ?_);refine goesL_ (some 6) rfl rfl Try.func72 (by kernel_rfl) rfl #[.slice A0 l0.length c0] rfl (by (try simp only [List.map_toArray,List.map_cons,List.map_nil]);rfl) ?_;(with_reducible refine (replica_Check.calls k _ _ l0 t123 _ ?side1 ?side2 A2.out).mono ?_);(case side1=>repeat (exact HR0.out));(case side2=>exact HC0.out);rintro e w5 ⟨rfl,hb⟩;refine ⟨_,rfl,?_⟩;replace HB:=Aside0.mk (below_step (by with_reducible exact HB.out) hb);(try clear hb);(try clear hb2);(try clear hk);(try clear hi)) | ((with_reducible refine gate_callee (f:=74) rfl ?_);refine goesL_ (some 11) rfl rfl Try.func74 (by kernel_rfl) rfl #[.slice A0 l0.length c0] rfl (by (try simp only [List.map_toArray,List.map_cons,List.map_nil]);rfl) ?_;(with_reducible refine (replica_Raw.calls _ _ l0 t124 _ ?side1 ?side2 A4.out).mono ?_);(case side1=>repeat (exact (Kd.C_below HR0.out HB.out)));(case side2=>exact HC0.out);rintro e w6 ⟨v125,rfl,ho0,hb⟩;refine ⟨_,rfl,?_⟩;have n0_:=Aside0.mk (Kd.N_lower (Kd.N_mono (ok':=fun k_=>(w.heap.size ≤ k_)) ho0 (fun k_ hk_=>(Nat.le_trans (below_size (by with_reducible exact HB.out)) hk_))) (below_size (by with_reducible exact HB.out)));have n1_:=Aside0.mk (below_step (by with_reducible exact HB.out) hb);clear HB;have HO126:=n0_;have HB:=n1_;clear n0_ n1_;(try clear hb);(try clear hb2);(try clear hk);(try clear hi);(try clear ho0)))
  go_ret2
  exact ⟨_,by rfl,by exact HO126.out,HB.out⟩
 ·rw [if_neg c3] at H
  have c3b0:(t123 == 0) = false:=beq_eq_false_iff_ne.mpr c3
  have c3b1:(t123 != 0) = true:=bne_iff_ne.mpr c3
  simp only [Option.some.injEq,Prod.mk.injEq] at H
  obtain ⟨rfl,rfl⟩:=H
  go_enter Try.func37,Try.ntmps37
  go_wp2_with (((with_reducible refine gate_callee (f:=72) rfl ?_);refine goesL_ (some 6) rfl rfl Try.func72 (by kernel_rfl) rfl #[.slice A0 l0.length c0] rfl (by (try simp only [List.map_toArray,List.map_cons,List.map_nil]);rfl) ?_;(with_reducible refine (replica_Check.calls k _ _ l0 t123 _ ?side1 ?side2 A2.out).mono ?_);(case side1=>repeat (exact HR0.out));(case side2=>exact HC0.out);rintro e w7 ⟨rfl,hb⟩;refine ⟨_,rfl,?_⟩;replace HB:=Aside0.mk (below_step (by with_reducible exact HB.out) hb);(try clear hb);(try clear hb2);(try clear hk);(try clear hi)))
  go_ret2
  exact ⟨_,by rfl,by exact Kd.N_nil _ _ _ _ _,HB.out⟩
def chancerykeep1_draws.f (k:Nat) :Option (Bool):=(replica_Items.f k (([(⟨1,1,0,5,0,(⟨#[98]⟩:ByteArray),(⟨#[]⟩:ByteArray),(⟨#[]⟩:ByteArray)⟩:S128),(⟨2,1,0,6,5,(⟨#[98]⟩:ByteArray),(⟨#[]⟩:ByteArray),(⟨#[]⟩:ByteArray)⟩:S128)]:List (S128)))).bind fun bt130=>(if bt130.2 = 0 then (if (bt130.1.length:Int) = 2 then (if 0 < (bt130.1.length:Int) then (if ((rd_T87 bt130.1 0).f0) = 5 then (if 1 < (bt130.1.length:Int) then (some (((rd_T87 bt130.1 1).f0) == 6)) else (none)) else (some false)) else (none)) else (some false)) else (some false))
set_option maxHeartbeats 8000000 in
set_option maxRecDepth 100000 in
theorem chancerykeep1_draws.calls (k:Nat)  (r:Bool) (w:World) (h:chancerykeep1_draws.f k  = some r) :
 Calls Try.prog 34 #[] w fun e w'=>e = .returned (.bool r) ∧ Below w.heap.size w w':=by
 have hu128:=Try.underlying128
 have HB:=Aside0.mk (Below.refl w.heap.size w)
 have H:((replica_Items.f k (([(⟨1,1,0,5,0,(⟨#[98]⟩:ByteArray),(⟨#[]⟩:ByteArray),(⟨#[]⟩:ByteArray)⟩:S128),(⟨2,1,0,6,5,(⟨#[98]⟩:ByteArray),(⟨#[]⟩:ByteArray),(⟨#[]⟩:ByteArray)⟩:S128)]:List (S128)))).bind fun bt130=>(if bt130.2 = 0 then (if (bt130.1.length:Int) = 2 then (if 0 < (bt130.1.length:Int) then (if ((rd_T87 bt130.1 0).f0) = 5 then (if 1 < (bt130.1.length:Int) then (some (((rd_T87 bt130.1 1).f0) == 6)) else (none)) else (some false)) else (none)) else (some false)) else (some false))) = some r:=h
 clear h
 obtain ⟨y127,hy127⟩:∃ y_:List (S128),y_ = (([(⟨1,1,0,5,0,(⟨#[98]⟩:ByteArray),(⟨#[]⟩:ByteArray),(⟨#[]⟩:ByteArray)⟩:S128),(⟨2,1,0,6,5,(⟨#[98]⟩:ByteArray),(⟨#[]⟩:ByteArray),(⟨#[]⟩:ByteArray)⟩:S128)]:List (S128))):=⟨_,rfl⟩
 replace H:((replica_Items.f k y127).bind fun bt130=>(if bt130.2 = 0 then (if (bt130.1.length:Int) = 2 then (if 0 < (bt130.1.length:Int) then (if ((rd_T87 bt130.1 0).f0) = 5 then (if 1 < (bt130.1.length:Int) then (some (((rd_T87 bt130.1 1).f0) == 6)) else (none)) else (some false)) else (none)) else (some false)) else (some false))) = some r:=by (rw [hy127];with_reducible exact H)
 have Ny127:=Aside0.mk hy127
 clear hy127
 replace H:=Option.bind_eq_some_iff.mp H
 obtain ⟨⟨t130,t133⟩,A10,H⟩:=H
 replace H:(if t133 = 0 then (if (t130.length:Int) = 2 then (if 0 < (t130.length:Int) then (if ((rd_T87 t130 0).f0) = 5 then (if 1 < (t130.length:Int) then (some (((rd_T87 t130 1).f0) == 6)) else (none)) else (some false)) else (none)) else (some false)) else (some false)) = some r:=H
 have A1:=Aside0.mk A10
 clear A10
 by_cases c2:t133 = 0
 ·rw [if_pos c2] at H
  have c2b0:(t133 == 0) = true:=beq_iff_eq.mpr c2
  have c2b1:(t133 != 0) = false:=bne_eq_false_iff_eq.mpr c2
  clear c2
  by_cases c3:(t130.length:Int) = 2
  ·rw [if_pos c3] at H
   have c3b0:((t130.length:Int) == 2) = true:=beq_iff_eq.mpr c3
   have c3b1:((t130.length:Int) != 2) = false:=bne_eq_false_iff_eq.mpr c3
   clear c3
   by_cases c4:0 < (t130.length:Int)
   ·rw [if_pos c4] at H
    have c4b0:decide (0 < (t130.length:Int)) = true:=decide_eq_true c4
    have c4b1:decide (0 < t130.length) = true:=decide_eq_true (by omega)
    clear c4
    by_cases c5:((rd_T87 t130 0).f0) = 5
    ·rw [if_pos c5] at H
     have c5b0:(((rd_T87 t130 0).f0) == 5) = true:=beq_iff_eq.mpr c5
     have c5b1:(((rd_T87 t130 0).f0) != 5) = false:=bne_eq_false_iff_eq.mpr c5
     clear c5
     by_cases c6:1 < (t130.length:Int)
     ·rw [if_pos c6] at H
      have c6b0:decide (1 < (t130.length:Int)) = true:=decide_eq_true c6
      have c6b1:decide (1 < t130.length) = true:=decide_eq_true (by omega)
      clear c6
      obtain rfl:=Option.some.inj H
      go_enter Try.func34,Try.ntmps34
      go_wp2_with (first | ((with_reducible refine gate_dst (N:=6) rfl ?_);(try (refine gate_guard (by rfl) ?_;dsimp only));refine Kd.R_lit k128 _ 128 ?hg (N:=6) ?hd (xs:=([(⟨1,1,0,5,0,(⟨#[98]⟩:ByteArray),(⟨#[]⟩:ByteArray),(⟨#[]⟩:ByteArray)⟩:S128),(⟨2,1,0,6,5,(⟨#[98]⟩:ByteArray),(⟨#[]⟩:ByteArray),(⟨#[]⟩:ByteArray)⟩:S128)]:List (S128))) (inner:=[.int .i64 1,.int .i64 1,.int .i64 0,.int .i64 5,.int .i64 0,.string (⟨#[98]⟩:ByteArray),.string (⟨#[]⟩:ByteArray),.string (⟨#[]⟩:ByteArray),.int .i64 2,.int .i64 1,.int .i64 0,.int .i64 6,.int .i64 5,.string (⟨#[98]⟩:ByteArray),.string (⟨#[]⟩:ByteArray),.string (⟨#[]⟩:ByteArray)]) (ok:=fun _=>True) (okp:=fun _=>True) ?hr ?hp (fun _ hk=>hk) trivial (Below.refl _ _) (Nat.le_refl _) (by simp) ?_;(case hd=>rfl);(case hg=>rfl);(case hr=>(go_simp;done));(case hp=>exact (Reps.c8 (show Kd.M k128 _ _ _ (⟨1,1,0,5,0,(⟨#[98]⟩:ByteArray),(⟨#[]⟩:ByteArray),(⟨#[]⟩:ByteArray)⟩:S128) [.int .i64 1,.int .i64 1,.int .i64 0,.int .i64 5,.int .i64 0,.string (⟨#[98]⟩:ByteArray),.string (⟨#[]⟩:ByteArray),.string (⟨#[]⟩:ByteArray)] from (k128_mkM _ _ _ (⟨1,1,0,5,0,(⟨#[98]⟩:ByteArray),(⟨#[]⟩:ByteArray),(⟨#[]⟩:ByteArray)⟩:S128) )) (Reps.c8 (show Kd.M k128 _ _ _ (⟨2,1,0,6,5,(⟨#[98]⟩:ByteArray),(⟨#[]⟩:ByteArray),(⟨#[]⟩:ByteArray)⟩:S128) [.int .i64 2,.int .i64 1,.int .i64 0,.int .i64 6,.int .i64 5,.string (⟨#[98]⟩:ByteArray),.string (⟨#[]⟩:ByteArray),.string (⟨#[]⟩:ByteArray)] from (k128_mkM _ _ _ (⟨2,1,0,6,5,(⟨#[98]⟩:ByteArray),(⟨#[]⟩:ByteArray),(⟨#[]⟩:ByteArray)⟩:S128) )) (Reps.none _ _))));intro v128 w7 ho8 hb hg_ hnew_;clear hg_ hnew_;(rw [← Ny127.out] at ho8);have n0_:=Aside0.mk (Kd.R_lower ho8 (below_size (by with_reducible exact HB.out)));have n1_:=Aside0.mk (below_step (by with_reducible exact HB.out) hb);clear HB;have HO129:=n0_;have HB:=n1_;clear n0_ n1_;clear hb ho8;obtain ⟨Ao9,co9,eo9⟩:=Kd.R_slice HO129.out;subst eo9) | ((with_reducible refine gate_callee (f:=37) rfl ?_);refine goesL_ (some 7) rfl rfl Try.func37 (by kernel_rfl) rfl #[.slice Ao9 y127.length co9] rfl (by (try simp only [List.map_toArray,List.map_cons,List.map_nil]);rfl) ?_;(with_reducible refine (replica_Items.calls k _ _ y127 t130 t133 _ ?side1 ?side2 A1.out).mono ?_);(case side1=>repeat (exact (Kd.R_reads' HO129.out).2.2));(case side2=>exact (Kd.R_reads' HO129.out).2.1);rintro e w10 ⟨v131,rfl,ho0,hb⟩;refine ⟨_,rfl,?_⟩;have n0_:=Aside0.mk (Kd.R_below HO129.out hb);have n1_:=Aside0.mk (Kd.N_lower (Kd.N_mono (ok':=fun k_=>some k_ ≠ (.slice Ao9 y127.length co9:Value).ownBlock) ho0 (fun k_ hk_=>(Kd.fresh' (Kd.R_lt HO129.out) k_ hk_))) (below_size (by with_reducible exact HB.out)));have n2_:=Aside0.mk (below_step (by with_reducible exact HB.out) hb);clear HO129;clear HB;have HO129:=n0_;have HO132:=n1_;have HB:=n2_;clear n0_ n1_ n2_;(try clear hb);(try clear hb2);(try clear hk);(try clear hi);(try clear ho0);obtain ⟨Ao11,co11,eo11⟩:=Kd.N_slice HO132.out;subst eo11;have p134:0 ≤ (0:Int):=(by omega);have q134:0 < (t130.length:Int):=of_decide_eq_true (by assumption);obtain ⟨ad134,A134_3,c134_3,e134,hx134_0,hx134_1,hx134_2,hx134_3,hl134_3,hi134_3⟩:=at_T87 (Kd.N_reads' HO132.out).2.2 0 p134 q134;cases e134;obtain ⟨ce134,hce134,hMe134,hcc134⟩:=Kd.N_get HO132.out z87 0 p134 q134;obtain ⟨ua134_3,uc134_3,rfl,ul134_3,ge134_3⟩:=k87_openF hMe134;have hv134_3:=hcc134 3 _ rfl;rw [add_field _ _ 3 (by omega)] at hv134_3;replace hv134_3:=Option.some.inj (hv134_3.symm.trans hx134_3);injection hv134_3 with hva_ hvn_ hvc_;rw [hva_] at ge134_3;rw [hvc_] at ul134_3;have HL134_3:=Aside0.mk (show Kd.V k91 91 _ w.heap.size _ _ ((rd_T87 t130 0).f3) from Kd.V_mk ul134_3 ge134_3);clear hva_ hvn_ hvc_ ge134_3 ul134_3;clear hcc134 hce134;have qi134:(0 < t130.length) = True:=eq_true (by omega);(try rw [show ((0:Int)).toNat = 0 from rfl] at hx134_0);(try rw [show 0 * 4 = 0 from rfl] at hx134_0);(try rw [Addr.add_zero'] at hx134_0);(try rw [show ((0:Int)).toNat = 0 from rfl] at hx134_1);(try rw [show 0 * 4 = 0 from rfl] at hx134_1);(try rw [Addr.add_zero'] at hx134_1);(try rw [show ((0:Int)).toNat = 0 from rfl] at hx134_2);(try rw [show 0 * 4 = 0 from rfl] at hx134_2);(try rw [Addr.add_zero'] at hx134_2);(try rw [show ((0:Int)).toNat = 0 from rfl] at hx134_3);(try rw [show 0 * 4 = 0 from rfl] at hx134_3);(try rw [Addr.add_zero'] at hx134_3);have HR134_3:=Aside0.mk hi134_3;have HC134_3:=Aside0.mk hl134_3;clear hi134_3 hl134_3;replace p134:=eq_true p134;replace q134:=eq_true q134;have p135:0 ≤ (1:Int):=(by omega);have q135:1 < (t130.length:Int):=of_decide_eq_true (by assumption);obtain ⟨ad135,A135_3,c135_3,e135,hx135_0,hx135_1,hx135_2,hx135_3,hl135_3,hi135_3⟩:=at_T87 (Kd.N_reads' HO132.out).2.2 1 p135 q135;obtain rfl:ad134 = ad135:=(by injection e135);obtain ⟨ce135,hce135,hMe135,hcc135⟩:=Kd.N_get HO132.out z87 1 p135 q135;obtain ⟨ua135_3,uc135_3,rfl,ul135_3,ge135_3⟩:=k87_openF hMe135;have hv135_3:=hcc135 3 _ rfl;rw [add_field _ _ 3 (by omega)] at hv135_3;replace hv135_3:=Option.some.inj (hv135_3.symm.trans hx135_3);injection hv135_3 with hva_ hvn_ hvc_;rw [hva_] at ge135_3;rw [hvc_] at ul135_3;have HL135_3:=Aside0.mk (show Kd.V k91 91 _ w.heap.size _ _ ((rd_T87 t130 1).f3) from Kd.V_mk ul135_3 ge135_3);clear hva_ hvn_ hvc_ ge135_3 ul135_3;clear hcc135 hce135;(try simp only [show (1:Int).toNat = 1 from rfl,Nat.reduceMul,Nat.reduceEqDiff,Go.Addr.add,↓reduceIte] at hx135_0);(try simp only [show (1:Int).toNat = 1 from rfl,Nat.reduceMul,Nat.reduceEqDiff,Go.Addr.add,↓reduceIte] at hx135_1);(try simp only [show (1:Int).toNat = 1 from rfl,Nat.reduceMul,Nat.reduceEqDiff,Go.Addr.add,↓reduceIte] at hx135_2);(try simp only [show (1:Int).toNat = 1 from rfl,Nat.reduceMul,Nat.reduceEqDiff,Go.Addr.add,↓reduceIte] at hx135_3);have qi135:(1 < t130.length) = True:=eq_true (by omega);(try rw [show ((1:Int)).toNat = 1 from rfl] at hx135_0);(try rw [show 1 * 4 = 4 from rfl] at hx135_0);(try rw [show ((1:Int)).toNat = 1 from rfl] at hx135_1);(try rw [show 1 * 4 = 4 from rfl] at hx135_1);(try rw [show ((1:Int)).toNat = 1 from rfl] at hx135_2);(try rw [show 1 * 4 = 4 from rfl] at hx135_2);(try rw [show ((1:Int)).toNat = 1 from rfl] at hx135_3);(try rw [show 1 * 4 = 4 from rfl] at hx135_3);have HR135_3:=Aside0.mk hi135_3;have HC135_3:=Aside0.mk hl135_3;clear hi135_3 hl135_3;replace p135:=eq_true p135;replace q135:=eq_true q135))
      go_ret
      exact ⟨by rfl,HB.out⟩
     ·rw [if_neg c6] at H
      exact absurd H (by simp)
    ·rw [if_neg c5] at H
     have c5b0:(((rd_T87 t130 0).f0) == 5) = false:=beq_eq_false_iff_ne.mpr c5
     have c5b1:(((rd_T87 t130 0).f0) != 5) = true:=bne_iff_ne.mpr c5
     obtain rfl:=Option.some.inj H
     go_enter Try.func34,Try.ntmps34
     go_wp2_with (first | ((with_reducible refine gate_dst (N:=6) rfl ?_);(try (refine gate_guard (by rfl) ?_;dsimp only));refine Kd.R_lit k128 _ 128 ?hg (N:=6) ?hd (xs:=([(⟨1,1,0,5,0,(⟨#[98]⟩:ByteArray),(⟨#[]⟩:ByteArray),(⟨#[]⟩:ByteArray)⟩:S128),(⟨2,1,0,6,5,(⟨#[98]⟩:ByteArray),(⟨#[]⟩:ByteArray),(⟨#[]⟩:ByteArray)⟩:S128)]:List (S128))) (inner:=[.int .i64 1,.int .i64 1,.int .i64 0,.int .i64 5,.int .i64 0,.string (⟨#[98]⟩:ByteArray),.string (⟨#[]⟩:ByteArray),.string (⟨#[]⟩:ByteArray),.int .i64 2,.int .i64 1,.int .i64 0,.int .i64 6,.int .i64 5,.string (⟨#[98]⟩:ByteArray),.string (⟨#[]⟩:ByteArray),.string (⟨#[]⟩:ByteArray)]) (ok:=fun _=>True) (okp:=fun _=>True) ?hr ?hp (fun _ hk=>hk) trivial (Below.refl _ _) (Nat.le_refl _) (by simp) ?_;(case hd=>rfl);(case hg=>rfl);(case hr=>(go_simp;done));(case hp=>exact (Reps.c8 (show Kd.M k128 _ _ _ (⟨1,1,0,5,0,(⟨#[98]⟩:ByteArray),(⟨#[]⟩:ByteArray),(⟨#[]⟩:ByteArray)⟩:S128) [.int .i64 1,.int .i64 1,.int .i64 0,.int .i64 5,.int .i64 0,.string (⟨#[98]⟩:ByteArray),.string (⟨#[]⟩:ByteArray),.string (⟨#[]⟩:ByteArray)] from (k128_mkM _ _ _ (⟨1,1,0,5,0,(⟨#[98]⟩:ByteArray),(⟨#[]⟩:ByteArray),(⟨#[]⟩:ByteArray)⟩:S128) )) (Reps.c8 (show Kd.M k128 _ _ _ (⟨2,1,0,6,5,(⟨#[98]⟩:ByteArray),(⟨#[]⟩:ByteArray),(⟨#[]⟩:ByteArray)⟩:S128) [.int .i64 2,.int .i64 1,.int .i64 0,.int .i64 6,.int .i64 5,.string (⟨#[98]⟩:ByteArray),.string (⟨#[]⟩:ByteArray),.string (⟨#[]⟩:ByteArray)] from (k128_mkM _ _ _ (⟨2,1,0,6,5,(⟨#[98]⟩:ByteArray),(⟨#[]⟩:ByteArray),(⟨#[]⟩:ByteArray)⟩:S128) )) (Reps.none _ _))));intro v128 w12 ho13 hb hg_ hnew_;clear hg_ hnew_;(rw [← Ny127.out] at ho13);have n0_:=Aside0.mk (Kd.R_lower ho13 (below_size (by with_reducible exact HB.out)));have n1_:=Aside0.mk (below_step (by with_reducible exact HB.out) hb);clear HB;have HO129:=n0_;have HB:=n1_;clear n0_ n1_;clear hb ho13;obtain ⟨Ao14,co14,eo14⟩:=Kd.R_slice HO129.out;subst eo14) | ((with_reducible refine gate_callee (f:=37) rfl ?_);refine goesL_ (some 7) rfl rfl Try.func37 (by kernel_rfl) rfl #[.slice Ao14 y127.length co14] rfl (by (try simp only [List.map_toArray,List.map_cons,List.map_nil]);rfl) ?_;(with_reducible refine (replica_Items.calls k _ _ y127 t130 t133 _ ?side1 ?side2 A1.out).mono ?_);(case side1=>repeat (exact (Kd.R_reads' HO129.out).2.2));(case side2=>exact (Kd.R_reads' HO129.out).2.1);rintro e w15 ⟨v131,rfl,ho0,hb⟩;refine ⟨_,rfl,?_⟩;have n0_:=Aside0.mk (Kd.R_below HO129.out hb);have n1_:=Aside0.mk (Kd.N_lower (Kd.N_mono (ok':=fun k_=>some k_ ≠ (.slice Ao14 y127.length co14:Value).ownBlock) ho0 (fun k_ hk_=>(Kd.fresh' (Kd.R_lt HO129.out) k_ hk_))) (below_size (by with_reducible exact HB.out)));have n2_:=Aside0.mk (below_step (by with_reducible exact HB.out) hb);clear HO129;clear HB;have HO129:=n0_;have HO132:=n1_;have HB:=n2_;clear n0_ n1_ n2_;(try clear hb);(try clear hb2);(try clear hk);(try clear hi);(try clear ho0);obtain ⟨Ao16,co16,eo16⟩:=Kd.N_slice HO132.out;subst eo16;have p134:0 ≤ (0:Int):=(by omega);have q134:0 < (t130.length:Int):=of_decide_eq_true (by assumption);obtain ⟨ad134,A134_3,c134_3,e134,hx134_0,hx134_1,hx134_2,hx134_3,hl134_3,hi134_3⟩:=at_T87 (Kd.N_reads' HO132.out).2.2 0 p134 q134;cases e134;obtain ⟨ce134,hce134,hMe134,hcc134⟩:=Kd.N_get HO132.out z87 0 p134 q134;obtain ⟨ua134_3,uc134_3,rfl,ul134_3,ge134_3⟩:=k87_openF hMe134;have hv134_3:=hcc134 3 _ rfl;rw [add_field _ _ 3 (by omega)] at hv134_3;replace hv134_3:=Option.some.inj (hv134_3.symm.trans hx134_3);injection hv134_3 with hva_ hvn_ hvc_;rw [hva_] at ge134_3;rw [hvc_] at ul134_3;have HL134_3:=Aside0.mk (show Kd.V k91 91 _ w.heap.size _ _ ((rd_T87 t130 0).f3) from Kd.V_mk ul134_3 ge134_3);clear hva_ hvn_ hvc_ ge134_3 ul134_3;clear hcc134 hce134;have qi134:(0 < t130.length) = True:=eq_true (by omega);(try rw [show ((0:Int)).toNat = 0 from rfl] at hx134_0);(try rw [show 0 * 4 = 0 from rfl] at hx134_0);(try rw [Addr.add_zero'] at hx134_0);(try rw [show ((0:Int)).toNat = 0 from rfl] at hx134_1);(try rw [show 0 * 4 = 0 from rfl] at hx134_1);(try rw [Addr.add_zero'] at hx134_1);(try rw [show ((0:Int)).toNat = 0 from rfl] at hx134_2);(try rw [show 0 * 4 = 0 from rfl] at hx134_2);(try rw [Addr.add_zero'] at hx134_2);(try rw [show ((0:Int)).toNat = 0 from rfl] at hx134_3);(try rw [show 0 * 4 = 0 from rfl] at hx134_3);(try rw [Addr.add_zero'] at hx134_3);have HR134_3:=Aside0.mk hi134_3;have HC134_3:=Aside0.mk hl134_3;clear hi134_3 hl134_3;replace p134:=eq_true p134;replace q134:=eq_true q134))
     go_ret
     exact ⟨by rfl,HB.out⟩
   ·rw [if_neg c4] at H
    exact absurd H (by simp)
  ·rw [if_neg c3] at H
   have c3b0:((t130.length:Int) == 2) = false:=beq_eq_false_iff_ne.mpr c3
   have c3b1:((t130.length:Int) != 2) = true:=bne_iff_ne.mpr c3
   obtain rfl:=Option.some.inj H
   go_enter Try.func34,Try.ntmps34
   go_wp2_with (first | ((with_reducible refine gate_dst (N:=6) rfl ?_);(try (refine gate_guard (by rfl) ?_;dsimp only));refine Kd.R_lit k128 _ 128 ?hg (N:=6) ?hd (xs:=([(⟨1,1,0,5,0,(⟨#[98]⟩:ByteArray),(⟨#[]⟩:ByteArray),(⟨#[]⟩:ByteArray)⟩:S128),(⟨2,1,0,6,5,(⟨#[98]⟩:ByteArray),(⟨#[]⟩:ByteArray),(⟨#[]⟩:ByteArray)⟩:S128)]:List (S128))) (inner:=[.int .i64 1,.int .i64 1,.int .i64 0,.int .i64 5,.int .i64 0,.string (⟨#[98]⟩:ByteArray),.string (⟨#[]⟩:ByteArray),.string (⟨#[]⟩:ByteArray),.int .i64 2,.int .i64 1,.int .i64 0,.int .i64 6,.int .i64 5,.string (⟨#[98]⟩:ByteArray),.string (⟨#[]⟩:ByteArray),.string (⟨#[]⟩:ByteArray)]) (ok:=fun _=>True) (okp:=fun _=>True) ?hr ?hp (fun _ hk=>hk) trivial (Below.refl _ _) (Nat.le_refl _) (by simp) ?_;(case hd=>rfl);(case hg=>rfl);(case hr=>(go_simp;done));(case hp=>exact (Reps.c8 (show Kd.M k128 _ _ _ (⟨1,1,0,5,0,(⟨#[98]⟩:ByteArray),(⟨#[]⟩:ByteArray),(⟨#[]⟩:ByteArray)⟩:S128) [.int .i64 1,.int .i64 1,.int .i64 0,.int .i64 5,.int .i64 0,.string (⟨#[98]⟩:ByteArray),.string (⟨#[]⟩:ByteArray),.string (⟨#[]⟩:ByteArray)] from (k128_mkM _ _ _ (⟨1,1,0,5,0,(⟨#[98]⟩:ByteArray),(⟨#[]⟩:ByteArray),(⟨#[]⟩:ByteArray)⟩:S128) )) (Reps.c8 (show Kd.M k128 _ _ _ (⟨2,1,0,6,5,(⟨#[98]⟩:ByteArray),(⟨#[]⟩:ByteArray),(⟨#[]⟩:ByteArray)⟩:S128) [.int .i64 2,.int .i64 1,.int .i64 0,.int .i64 6,.int .i64 5,.string (⟨#[98]⟩:ByteArray),.string (⟨#[]⟩:ByteArray),.string (⟨#[]⟩:ByteArray)] from (k128_mkM _ _ _ (⟨2,1,0,6,5,(⟨#[98]⟩:ByteArray),(⟨#[]⟩:ByteArray),(⟨#[]⟩:ByteArray)⟩:S128) )) (Reps.none _ _))));intro v128 w17 ho18 hb hg_ hnew_;clear hg_ hnew_;(rw [← Ny127.out] at ho18);have n0_:=Aside0.mk (Kd.R_lower ho18 (below_size (by with_reducible exact HB.out)));have n1_:=Aside0.mk (below_step (by with_reducible exact HB.out) hb);clear HB;have HO129:=n0_;have HB:=n1_;clear n0_ n1_;clear hb ho18;obtain ⟨Ao19,co19,eo19⟩:=Kd.R_slice HO129.out;subst eo19) | ((with_reducible refine gate_callee (f:=37) rfl ?_);refine goesL_ (some 7) rfl rfl Try.func37 (by kernel_rfl) rfl #[.slice Ao19 y127.length co19] rfl (by (try simp only [List.map_toArray,List.map_cons,List.map_nil]);rfl) ?_;(with_reducible refine (replica_Items.calls k _ _ y127 t130 t133 _ ?side1 ?side2 A1.out).mono ?_);(case side1=>repeat (exact (Kd.R_reads' HO129.out).2.2));(case side2=>exact (Kd.R_reads' HO129.out).2.1);rintro e w20 ⟨v131,rfl,ho0,hb⟩;refine ⟨_,rfl,?_⟩;have n0_:=Aside0.mk (Kd.R_below HO129.out hb);have n1_:=Aside0.mk (Kd.N_lower (Kd.N_mono (ok':=fun k_=>some k_ ≠ (.slice Ao19 y127.length co19:Value).ownBlock) ho0 (fun k_ hk_=>(Kd.fresh' (Kd.R_lt HO129.out) k_ hk_))) (below_size (by with_reducible exact HB.out)));have n2_:=Aside0.mk (below_step (by with_reducible exact HB.out) hb);clear HO129;clear HB;have HO129:=n0_;have HO132:=n1_;have HB:=n2_;clear n0_ n1_ n2_;(try clear hb);(try clear hb2);(try clear hk);(try clear hi);(try clear ho0);obtain ⟨Ao21,co21,eo21⟩:=Kd.N_slice HO132.out;subst eo21))
   go_ret
   exact ⟨by rfl,HB.out⟩
 ·rw [if_neg c2] at H
  have c2b0:(t133 == 0) = false:=beq_eq_false_iff_ne.mpr c2
  have c2b1:(t133 != 0) = true:=bne_iff_ne.mpr c2
  obtain rfl:=Option.some.inj H
  go_enter Try.func34,Try.ntmps34
  go_wp2_with (first | ((with_reducible refine gate_dst (N:=6) rfl ?_);(try (refine gate_guard (by rfl) ?_;dsimp only));refine Kd.R_lit k128 _ 128 ?hg (N:=6) ?hd (xs:=([(⟨1,1,0,5,0,(⟨#[98]⟩:ByteArray),(⟨#[]⟩:ByteArray),(⟨#[]⟩:ByteArray)⟩:S128),(⟨2,1,0,6,5,(⟨#[98]⟩:ByteArray),(⟨#[]⟩:ByteArray),(⟨#[]⟩:ByteArray)⟩:S128)]:List (S128))) (inner:=[.int .i64 1,.int .i64 1,.int .i64 0,.int .i64 5,.int .i64 0,.string (⟨#[98]⟩:ByteArray),.string (⟨#[]⟩:ByteArray),.string (⟨#[]⟩:ByteArray),.int .i64 2,.int .i64 1,.int .i64 0,.int .i64 6,.int .i64 5,.string (⟨#[98]⟩:ByteArray),.string (⟨#[]⟩:ByteArray),.string (⟨#[]⟩:ByteArray)]) (ok:=fun _=>True) (okp:=fun _=>True) ?hr ?hp (fun _ hk=>hk) trivial (Below.refl _ _) (Nat.le_refl _) (by simp) ?_;(case hd=>rfl);(case hg=>rfl);(case hr=>(go_simp;done));(case hp=>exact (Reps.c8 (show Kd.M k128 _ _ _ (⟨1,1,0,5,0,(⟨#[98]⟩:ByteArray),(⟨#[]⟩:ByteArray),(⟨#[]⟩:ByteArray)⟩:S128) [.int .i64 1,.int .i64 1,.int .i64 0,.int .i64 5,.int .i64 0,.string (⟨#[98]⟩:ByteArray),.string (⟨#[]⟩:ByteArray),.string (⟨#[]⟩:ByteArray)] from (k128_mkM _ _ _ (⟨1,1,0,5,0,(⟨#[98]⟩:ByteArray),(⟨#[]⟩:ByteArray),(⟨#[]⟩:ByteArray)⟩:S128) )) (Reps.c8 (show Kd.M k128 _ _ _ (⟨2,1,0,6,5,(⟨#[98]⟩:ByteArray),(⟨#[]⟩:ByteArray),(⟨#[]⟩:ByteArray)⟩:S128) [.int .i64 2,.int .i64 1,.int .i64 0,.int .i64 6,.int .i64 5,.string (⟨#[98]⟩:ByteArray),.string (⟨#[]⟩:ByteArray),.string (⟨#[]⟩:ByteArray)] from (k128_mkM _ _ _ (⟨2,1,0,6,5,(⟨#[98]⟩:ByteArray),(⟨#[]⟩:ByteArray),(⟨#[]⟩:ByteArray)⟩:S128) )) (Reps.none _ _))));intro v128 w22 ho23 hb hg_ hnew_;clear hg_ hnew_;(rw [← Ny127.out] at ho23);have n0_:=Aside0.mk (Kd.R_lower ho23 (below_size (by with_reducible exact HB.out)));have n1_:=Aside0.mk (below_step (by with_reducible exact HB.out) hb);clear HB;have HO129:=n0_;have HB:=n1_;clear n0_ n1_;clear hb ho23;obtain ⟨Ao24,co24,eo24⟩:=Kd.R_slice HO129.out;subst eo24) | ((with_reducible refine gate_callee (f:=37) rfl ?_);refine goesL_ (some 7) rfl rfl Try.func37 (by kernel_rfl) rfl #[.slice Ao24 y127.length co24] rfl (by (try simp only [List.map_toArray,List.map_cons,List.map_nil]);rfl) ?_;(with_reducible refine (replica_Items.calls k _ _ y127 t130 t133 _ ?side1 ?side2 A1.out).mono ?_);(case side1=>repeat (exact (Kd.R_reads' HO129.out).2.2));(case side2=>exact (Kd.R_reads' HO129.out).2.1);rintro e w25 ⟨v131,rfl,ho0,hb⟩;refine ⟨_,rfl,?_⟩;have n0_:=Aside0.mk (Kd.R_below HO129.out hb);have n1_:=Aside0.mk (Kd.N_lower (Kd.N_mono (ok':=fun k_=>some k_ ≠ (.slice Ao24 y127.length co24:Value).ownBlock) ho0 (fun k_ hk_=>(Kd.fresh' (Kd.R_lt HO129.out) k_ hk_))) (below_size (by with_reducible exact HB.out)));have n2_:=Aside0.mk (below_step (by with_reducible exact HB.out) hb);clear HO129;clear HB;have HO129:=n0_;have HO132:=n1_;have HB:=n2_;clear n0_ n1_ n2_;(try clear hb);(try clear hb2);(try clear hk);(try clear hi);(try clear ho0)))
  go_ret
  exact ⟨by rfl,HB.out⟩
end
end Go.Proofs.Ytlcodfjlbhjkbaa.PDelta
end
section
namespace Go.Proofs.Ytlcodfjlbhjkbaa.PDelta
open Go.RowKit Go.Proofs.YtlcodfjlbhjkbaaW.PrintWords Go.Proofs.YtlcodfjlbhjkbaaW.PrintLast Go.Proofs.YtlcodfjlbhjkbaaW.PrintMore
theorem row_C {w:World} {base:Nat} {ok:Nat → Prop} {v:Value} {l:List S128} (h:Kd.R k128 128 w base ok v l):∃ A c,v = .slice A l.length c ∧ l.length ≤ c ∧ Kd.C k128 w A l.length l:=by
 obtain ⟨A,c,rfl⟩:=Kd.R_slice h
 exact ⟨A,c,rfl,(Kd.R_reads' h).2.1,(Kd.R_reads' h).2.2⟩
end Go.Proofs.Ytlcodfjlbhjkbaa.PDelta
end
section
namespace Go.Proofs.Ytlcodfjlbhjkbaa.PDelta
open Go.RowKit Go.Proofs.YtlcodfjlbhjkbaaW.PrintWords Go.Proofs.YtlcodfjlbhjkbaaW.PrintLast Go.Proofs.YtlcodfjlbhjkbaaW.PrintMore
open Go.RowKit Go.Proofs.YtlcodfjlbhjkbaaW.PrintWords Go.Proofs.YtlcodfjlbhjkbaaW.PrintLast Go.Proofs.YtlcodfjlbhjkbaaW.PrintMore
open Go.RowKit Go.Proofs.YtlcodfjlbhjkbaaW.PrintWords Go.Proofs.YtlcodfjlbhjkbaaW.PrintLast Go.Proofs.YtlcodfjlbhjkbaaW.PrintMore
open Go.RowKit Go.Proofs.YtlcodfjlbhjkbaaW.PrintWords Go.Proofs.YtlcodfjlbhjkbaaW.PrintLast Go.Proofs.YtlcodfjlbhjkbaaW.PrintMore
open Go.RowKit Go.Proofs.YtlcodfjlbhjkbaaW.PrintWords Go.Proofs.YtlcodfjlbhjkbaaW.PrintLast Go.Proofs.YtlcodfjlbhjkbaaW.PrintMore
open Go.RowKit Go.Proofs.YtlcodfjlbhjkbaaW.PrintWords Go.Proofs.YtlcodfjlbhjkbaaW.PrintLast Go.Proofs.YtlcodfjlbhjkbaaW.PrintMore
end Go.Proofs.Ytlcodfjlbhjkbaa.PDelta
end
section
namespace Go.Proofs.Ytlcodfjlbhjkbaa.PDelta
open Go.RowKit Go.Maps Go.Sort Go.Proofs.YtlcodfjlbhjkbaaW.PrintWords Go.Proofs.YtlcodfjlbhjkbaaW.PrintLast Go.Proofs.YtlcodfjlbhjkbaaW.PrintMore
structure Good (U l:List S128):Prop where
 sub:∀ z ∈ l,z ∈ U
 st:l.Pairwise stLt
section
variable {U:List S128}
theorem Good.merge (hU:OneSt U) {a b:List S128} (ga:Good U a) (gb:Good U b):Good U (mergeS a b) :=
 ⟨fun z hz=>((mergeS_mem hU a b ga.sub gb.sub z).1 hz).elim (ga.sub z) (gb.sub z),mergeS_sorted hU a b ga.sub gb.sub ga.st gb.st⟩
theorem join_ev (hU:OneSt U) (hV:∀ o ∈ U,OpV o) {a b:List S128} (ga:Good U a) (gb:Good U b) (hl:a.length + b.length ≤ 1000000):Ev (fun k=>replica_Join.f k a b) (mergeS a b,0):=by
 have h1:=dcheck_ev ga.st (fun o ho=>hV o (ga.sub o ho)) (by omega)
 have h2:=dcheck_ev gb.st (fun o ho=>hV o (gb.sub o ho)) (by omega)
 have h3:=both_l0 hU a b ga.sub gb.sub [] (by simp only [List.length_nil];omega)
 unfold replica_Join.f
 exact Ev.bind h1 (Ev.congr (fun k=>if_pos rfl) (Ev.bind h2 (Ev.congr (fun k=>if_pos rfl) (Ev.bind h3 (Ev.now _)))))
end
theorem roll_ev (raw:List Int) (u:Nat) {n:Int} (hn:1 ≤ n) (hn2:n ≤ 1000):∃ x,rollF raw u n = some x ∧ 0 ≤ x ∧ x < n:=by
 have:∃ x,rollF raw u n = some x:=by
  unfold rollF
  split
  ·exact ⟨_,rfl⟩
  ·rw [show wrap64 (n - 1) = n - 1 by unfold wrap64;omega]
   obtain ⟨r,hr,_⟩:=within_ev (wrap64 (rd raw ((u % raw.length:Nat):Int) + (((u + 1) / raw.length:Nat):Int))) (n - 1) (by omega) (by omega)
   exact ⟨r,hr⟩
 obtain ⟨x,hx⟩:=this
 exact ⟨x,hx,roll_range hn hn2 hx⟩
theorem one_name {b:UInt8} (h:chOK True (b.toNat:Int)):NameOK ⟨#[b]⟩:=by
 refine ⟨Nat.le_refl 1,(show 1 ≤ 24 by decide),fun i h0 h1=>?_⟩
 have:i = 0:=by have:(ByteArray.size ⟨#[b]⟩:Int) = 1:=rfl;omega
 subst this
 have e:bt ⟨#[b]⟩ 0 = (b.toNat:Int):=rfl
 rw [e]
 simpa using h
theorem one_val {b:UInt8} (h:32 ≤ (b.toNat:Int) ∧ (b.toNat:Int) ≤ 126):ValOK ⟨#[b]⟩:=by
 refine ⟨Nat.le_refl 1,(show 1 ≤ 200 by decide),fun i h0 h1=>?_⟩
 have:i = 0:=by have:(ByteArray.size ⟨#[b]⟩:Int) = 1:=rfl;omega
 subst this
 exact h
theorem xy_ok {d:Int} (h0:0 ≤ d) (h1:d < 2):NameOK (xyS d):=by
 obtain rfl | rfl:d = 0 ∨ d = 1:=by omega
 ·exact one_name (b:=120) (by simp [chOK])
 ·exact one_name (b:=121) (by simp [chOK])
theorem no_ok {d:Int} (h0:0 ≤ d) (h1:d < 3):noS d = ⟨#[]⟩ ∨ ValOK (noS d):=by
 obtain rfl | rfl | rfl:d = 0 ∨ d = 1 ∨ d = 2:=by omega
 ·exact .inl rfl
 ·exact .inr (one_val (b:=49) (by decide))
 ·exact .inr (one_val (b:=50) (by decide))
theorem pl_ok {d:Int} (h0:0 ≤ d) (h1:d < 3):PlaceOK (plS d):=by
 obtain rfl | rfl | rfl:d = 0 ∨ d = 1 ∨ d = 2:=by omega
 ·exact Ev.of (fun k=>replica_Place.mono _ k) (k:=6) (by kernel_rfl)
 ·exact Ev.of (fun k=>replica_Place.mono _ k) (k:=6) (by kernel_rfl)
 ·exact Ev.of (fun k=>replica_Place.mono _ k) (k:=6) (by kernel_rfl)
theorem paint_some (raw:List Int) {site:Int} (hs:0 ≤ site ∧ site ≤ 1000) {i:Nat} (hi:i < 12) (u:Nat):∃ o u',paintF raw site i u = some (o,u') ∧ OpV o ∧ o.f1 = site ∧ 1 + 2 * (i:Int) ≤ o.f0 ∧ o.f0 ≤ 2 + 2 * (i:Int) ∧ (o.f3 ≤ 6) ∧ o.f4 ≤ 6:=by
 unfold paintF
 obtain ⟨a,ha,a0,a1⟩:=roll_ev raw u (n:=2) (by omega) (by omega)
 obtain ⟨b,hb,b0,b1⟩:=roll_ev raw (rollU raw u) (n:=6) (by omega) (by omega)
 obtain ⟨c,hc,c0,c1⟩:=roll_ev raw (rollU raw (rollU raw u)) (n:=3) (by omega) (by omega)
 rw [ha,hb,hc]
 simp only [Option.bind_some]
 by_cases h:c = 0
 ·rw [if_pos h]
  obtain ⟨d,hd,d0,d1⟩:=roll_ev raw (rollU raw (rollU raw (rollU raw u))) (n:=2) (by omega) (by omega)
  obtain ⟨e,he,e0,e1⟩:=roll_ev raw (rollU raw (rollU raw (rollU raw (rollU raw u)))) (n:=3) (by omega) (by omega)
  rw [hd,he]
  simp only [Option.bind_some]
  exact ⟨_,_,rfl,⟨by simp only;omega,hs,by simp only;omega,.inr ⟨rfl,rfl,rfl,xy_ok d0 d1,no_ok e0 e1⟩⟩,rfl,by simp only;omega,by simp only;omega,by simp only;omega,by simp only;omega⟩
 ·rw [if_neg h]
  obtain ⟨d,hd,d0,d1⟩:=roll_ev raw (rollU raw (rollU raw (rollU raw u))) (n:=8) (by omega) (by omega)
  obtain ⟨e,he,e0,e1⟩:=roll_ev raw (rollU raw (rollU raw (rollU raw (rollU raw u)))) (n:=3) (by omega) (by omega)
  rw [hd,he]
  simp only [Option.bind_some]
  exact ⟨_,_,rfl,⟨by simp only;omega,hs,by simp only;omega,.inl ⟨rfl,rfl,rfl,by simp only;omega,by simp only;omega,pl_ok e0 e1⟩⟩,rfl,by simp only;omega,by simp only;omega,by simp only;omega,by simp only;omega⟩
theorem paintsL_some (raw:List Int) {site:Int} (hs:0 ≤ site ∧ site ≤ 1000):∀ (n i u:Nat) (out:List S128),i + n ≤ 12 → out.length = i → out.Pairwise stLt → (∀ o ∈ out,OpV o ∧ o.f1 = site ∧ o.f0 ≤ 2 * (i:Int)) →
 ∃ r,paintsL raw site n i u out = some r ∧ r.length = i + n ∧ r.Pairwise stLt ∧ ∀ o ∈ r,OpV o ∧ o.f1 = site
 | 0,i,u,out,hi,hl,hp,ho=>⟨out,rfl,by omega,hp,fun o h=>⟨(ho o h).1,(ho o h).2.1⟩⟩
 | n + 1,i,u,out,hi,hl,hp,ho=>by
  obtain ⟨o,u',h1,h2,h3,h4,h5,_⟩:=paint_some raw hs (i:=i) (by omega) u
  obtain ⟨r,h6,h7,h8,h9⟩:=paintsL_some raw hs n (i + 1) u' (out ++ [o]) (by omega) (by rw [List.length_append,hl];rfl) (by
   rw [List.pairwise_append]
   refine ⟨hp,List.pairwise_singleton _ _,fun x hx y hy=>?_⟩
   obtain rfl:y = o:=by simpa using hy
   have:=(ho x hx).2.2
   exact .inl (by omega)) (fun x hx=>by
   rcases List.mem_append.1 hx with hx | hx
   ·obtain ⟨a,b,c⟩:=ho x hx
    exact ⟨a,b,by omega⟩
   ·obtain rfl:x = o:=by simpa using hx
    exact ⟨h2,h3,by omega⟩)
  refine ⟨r,?_,by omega,h8,h9⟩
  rw [paintsL,h1]
  exact h6
theorem paints_some (raw:List Int) {site:Int} (hs:0 ≤ site ∧ site ≤ 1000):∃ r,paintsF raw site = some r ∧ r.length ≤ 12 ∧ r.Pairwise stLt ∧ ∀ o ∈ r,OpV o ∧ o.f1 = site:=by
 obtain ⟨r,h1,h2,h3,h4⟩:=paintsL_some raw hs (min raw.length 12) 0 0 [] (by omega) rfl .nil (fun o h=>by cases h)
 exact ⟨r,h1,by omega,h3,h4⟩
theorem play_keys (P:Int → Prop) (k:Nat):∀ (l:List S128) (b bE:Brd),playF k l b = some bE → (∀ o ∈ l,P o.f3) → (∀ x ∈ b.its,P x.f0) → ∀ x ∈ bE.its,P x.f0
 | [],b,bE,h,_,hb=>by cases h;exact hb
 | o :: l,b,bE,h,hl,hb=>by
  have hl':∀ o ∈ l,P o.f3:=fun x hx=>hl x (List.mem_cons_of_mem _ hx)
  unfold playF at h
  split at h
  ·obtain ⟨r,hr,h⟩:=Option.bind_eq_some_iff.1 h
   exact play_keys P k l _ bE h hl' hb
  ·obtain ⟨t,ht,h⟩:=Option.bind_eq_some_iff.1 h
   split at h
   ·exact play_keys P k l b bE h hl' hb
   ·refine play_keys P k l _ bE h hl' (fun x hx=>?_)
    rcases List.mem_append.1 hx with hx | hx
    ·exact hb x (List.mem_filter.1 hx).1
    ·obtain rfl:x = _:=by simpa using hx
     exact hl o List.mem_cons_self
theorem i64_wf {x:Int} (h0:-9223372036854775808 ≤ x) (h1:x ≤ 9223372036854775807):(Lit.int .i64 x).wf = true:=by
 have e1:IntKind.i64.min = -9223372036854775808:=by rfl
 have e2:IntKind.i64.max = 9223372036854775807:=by rfl
 simp [Lit.wf,e1,e2,h0,h1]
theorem OpV.ok {o:S128} (h:OpV o):OpOK o:=by
 have h1:=h.item
 refine ⟨i64_wf (by omega) (by omega),?_⟩
 rcases h.kind with ⟨_,_,_,h4,h5,_⟩ | ⟨_,h4,_⟩
 ·exact i64_wf (by omega) (by omega)
 ·rw [h4];decide
theorem drawn_ev {l:List S128} (hv:∀ o ∈ l,OpV o) (hl:l.length ≤ 1073741824):∃ k b,playF k l ⟨[],[]⟩ = some b ∧ BOK b ∧ b.its.length ≤ l.length ∧ (∀ i,(b.atD i).length ≤ l.length) ∧ replica_Raw.f l = some ((orderL b).map (fillF b)):=by
 obtain ⟨k,b,h1,h2,h3,h4,h5⟩:=items_some l (fun o ho=>by have:=(hv o ho).item;omega) hl
 refine ⟨k,b,h1,h2,h3,h4,rawis_f ⟨k,b,h1,h2,by omega,?_,fun o ho=>(hv o ho).ok,rfl⟩⟩
 exact play_keys (fun i=>(Lit.int .i64 i).wf = true) k l _ b h1 (fun o ho=>(hv o ho).ok.1) (fun x hx=>by cases hx)
theorem items_ev {l:List S128} (hs:l.Pairwise stLt) (hv:∀ o ∈ l,OpV o) (hl:l.length ≤ 1073741824) {r:List S87} (h:replica_Raw.f l = some r):Ev (fun k=>replica_Items.f k l) (r,0):=by
 unfold replica_Items.f
 exact Ev.bind (dcheck_ev hs hv hl) (Ev.congr (fun k=>by rw [if_pos rfl,h];rfl) (Ev.now _))
def drawOps:List S128:=[⟨1,1,0,5,0,⟨#[98]⟩,⟨#[]⟩,⟨#[]⟩⟩,⟨2,1,0,6,5,⟨#[98]⟩,⟨#[]⟩,⟨#[]⟩⟩]
theorem drawOps_ok:(∀ o ∈ drawOps,OpV o) ∧ drawOps.Pairwise stLt:=by
 have hp:PlaceOK ⟨#[98]⟩:=pl_ok (d:=0) (by omega) (by omega)
 refine ⟨fun o ho=>?_,?_⟩
 ·simp only [drawOps,List.mem_cons,List.not_mem_nil,or_false] at ho
  rcases ho with rfl | rfl
  ·exact ⟨by decide,by decide,by decide,.inl ⟨rfl,rfl,rfl,by decide,by decide,hp⟩⟩
  ·exact ⟨by decide,by decide,by decide,.inl ⟨rfl,rfl,rfl,by decide,by decide,hp⟩⟩
 ·simp [drawOps,stLt]
theorem draws_ev:Ev (fun k=>chancerykeep1_draws.f k) true:=by
 obtain ⟨k,b,h1,h2,h3,h4,h5⟩:=drawn_ev drawOps_ok.1 (by decide)
 have hi:=items_ev drawOps_ok.2 drawOps_ok.1 (by decide) h5
 have hb:b = ⟨[⟨5,0,⟨#[98]⟩,[]⟩,⟨6,5,⟨#[98]⟩,[]⟩],[]⟩:=by
  have e:playF 5 drawOps ⟨[],[]⟩ = some ⟨[⟨5,0,⟨#[98]⟩,[]⟩,⟨6,5,⟨#[98]⟩,[]⟩],[]⟩:=by kernel_rfl
  have:=(play_le h1 (Nat.le_max_left k 5)).symm.trans (play_le e (Nat.le_max_right k 5))
  exact Option.some.inj this
 subst hb
 refine Ev.bind hi (Ev.congr (f:=fun _=>some true) (fun k=>?_) (Ev.now true))
 kernel_rfl
theorem stLt.total {l:List S128} (h:l.Pairwise stLt) {x y:S128} (hx:x ∈ l) (hy:y ∈ l):x = y ∨ stLt x y ∨ stLt y x:=by
 induction l with
 | nil=>cases hx
 | cons z r ih =>
  rw [List.pairwise_cons] at h
  rcases List.mem_cons.1 hx with rfl | hx1
  ·rcases List.mem_cons.1 hy with rfl | hy1
   ·exact .inl rfl
   ·exact .inr (.inl (h.1 y hy1))
  ·rcases List.mem_cons.1 hy with rfl | hy1
   ·exact .inr (.inr (h.1 x hx1))
   ·exact ih h.2 hx1 hy1
theorem ev_at2 {α β:Type} {g:Nat → Option α} {f:Nat → Option β} {a:α} {b:β} (h:Ev g a) (k:Ev f b):∃ K,∀ n,K ≤ n → g n = some a ∧ f n = some b:=by
 obtain ⟨K,h⟩:=h
 obtain ⟨L,k⟩:=k
 exact ⟨K + L,fun n hn=>⟨h n (by omega),k n (by omega)⟩⟩
theorem site_apart {x y:S128} (h:x.f1 ≠ y.f1):stLt x y ∨ stLt y x:=by unfold stLt;omega
end Go.Proofs.Ytlcodfjlbhjkbaa.PDelta
end
section
namespace Go.Proofs.Ytlcodfjlbhjkbaa.PDelta
open Go.RowKit Go.Maps Go.Proofs.YtlcodfjlbhjkbaaW.PrintWords Go.Proofs.YtlcodfjlbhjkbaaW.PrintLast Go.Proofs.YtlcodfjlbhjkbaaW.PrintMore
def shownN (seen:List Int) (n:Nat):List S87 → Nat
 | []=>n
 | x :: r=>if x.f1 ∈ seen then shownN (x.f0 :: seen) (n + 1) r else n
def wfIt (x:S87):Bool:=(Lit.int .i64 x.f0).wf && (Lit.int .i64 x.f1).wf
def seenG (seen:List Int) (i:Int):Option Value:=if i ∈ seen then some (.bool true) else none
theorem seenG_put (seen:List Int) (i:Int):putV (seenG seen) i (.bool true) = seenG (i :: seen):=by
 funext j
 unfold putV seenG
 by_cases h:j = i
 ·simp [h]
 ·simp [h]
theorem zero4b (w:World):(zeroValue 4).run Try.prog w = .ok (.bool false) w:=by kernel_rfl
section
variable {P:Program} {ops:Array Oper} {rest:List Oper} {o:Oper} {a:Act} {Q:Exit → Act → World → Prop}
theorem wp_insert (w:World) (hgd:o.guard = none) (m x v:Operand) (t e:TypeId) (hop:o.op = Op.insert t m x v) (ht:Try.prog.underlying t = some (.map 3 e))
 (b n:Nat) (g:Int → Option Value) (hm:a.eval m = .map (some b)) (h:MapV w b n g) (hn:n < maxLen) (i:Int) (hx:a.eval x = .int .i64 i) (hw:(Lit.int .i64 i).wf = true) (u:Value) (hv:a.eval v = u)
 (hK:∀ w',MapV w' b (n + 1) (putV g i u) → w.grownBy w' (some b) → w'.heap.size = w.heap.size → wpList Try.prog ops Q rest (a.put o.dst undef) w'):wpList Try.prog ops Q (o :: rest) a w:=by
 refine wpList_plain hgd fun K' hK'=>?_
 obtain ⟨w',hr,h1,h2,h3⟩:=h.store ht hn i u hw
 unfold Oper.wp
 simp [execOp,hop,hm,hx,hv,hr,Result.andThen]
 exact hK' _ _ (hK w' h1 h2 h3)
end
set_option maxRecDepth 100000 in
set_option maxHeartbeats 4000000 in
theorem shown_calls (A0:Option Addr) (c0:Nat) (l:List S87) (w:World) (hr0:Kd.C k87 w A0 l.length l) (hc0:l.length ≤ c0) (hok:∀ x ∈ l,wfIt x = true) (hl:l.length ≤ 1073741824) :
 Calls Try.prog 43 #[.slice A0 l.length c0] w fun e w'=>e = .returned (.int .i64 (shownN [0] 0 l:Nat)) ∧ Below w.heap.size w w':=by
 have hmm:=@run_makeMap Try.prog
 have HR0:=Aside0.mk hr0
 have HC0:=Aside0.mk hc0
 have HOK:=Aside0.mk hok
 have HMX:=Aside0.mk hl
 obtain ⟨r,hr⟩:∃ r,r = shownN [0] 0 l:=⟨_,rfl⟩
 rw [← hr]
 have H:Aside0 (shownN [0] 0 l = r):=⟨hr.symm⟩
 clear hr0 hc0 hok hr hl
 go_enter Try.func43,Try.ntmps43
 go_wp2_with ((with_reducible refine gate_ (Op.insert 133 (.tmp 6) (.const (.int .i64 0)) (.const (.bool true))) rfl ?_);refine wp_insert _ rfl (.tmp 6) (.const (.int .i64 0)) (.const (.bool true)) 133 4 rfl Try.underlying133 w.heap.size 0 (fun _=>none) rfl (MapV.made w) (by simp only [maxLen];omega) 0 rfl (by decide) (.bool true) rfl ?_;intro w1 hm1 hg1 hs1;have HM1:Aside0 (MapV w1 w.heap.size 1 (seenG [0])):=⟨(by have e:putV (fun _=>none) 0 (.bool true) = seenG [0]:=seenG_put [] 0;rw [← e];exact hm1)⟩;have HB1:Aside0 (Below w.heap.size w w1):=⟨(below_alloc (Below.refl _ w) (.map #[] 0)).grown hg1 (by simp) (fun k hk=>by cases hk;exact Nat.le_refl _)⟩;clear hm1 hg1 hs1 hmm)
 go_loopg [10] l.length (fun n v10 wr=>∃ (i:Nat) (seen:List Int),v10 = .int .i64 (i:Int) ∧ Aside0 (n + i = l.length) ∧ Aside0 (shownN seen i (l.drop i) = r) ∧ Aside0 (MapV wr w.heap.size (i + 1) (seenG seen)) ∧ Aside0 (Below w.heap.size w wr))
 case atStart=>exact ⟨0,[0],rfl,⟨rfl⟩,H,HM1,HB1⟩
 case round =>
  obtain ⟨i,seen,rfl,HI,HS,HM,HB⟩:=hrel
  clear H HM1 HB1
  by_cases d1:i < l.length
  rotate_left
  ·have g1:decide ((i:Int) < (l.length:Int)) = false:=decide_eq_false (by omega)
   have g1':decide (i < l.length) = false:=decide_eq_false d1
   have HX:Aside0 (l.length = r):=⟨by
    have h1:=HS.out
    rw [List.drop_eq_nil_of_le (by omega)] at h1
    have h2:=HI.out
    rw [← h1]
    show l.length = i
    omega⟩
   clear d1
   go_wp2
   go_ret
   exact ⟨by rw [HX.out];rfl,HB.out⟩
  have g1:decide ((i:Int) < (l.length:Int)) = true:=decide_eq_true (by omega)
  have g1':decide (i < l.length) = true:=decide_eq_true d1
  have q1:(i:Int) < (l.length:Int):=by omega
  obtain ⟨gl,rfl⟩:∃ gl,gk = gl + 1:=⟨gk - 1,by have:=HI.out;omega⟩
  obtain ⟨ad0,A3,c3,e0,x0,x1,x2,x3,_,_⟩:=at_T87 (Kd.C_below HR0.out HB.out) (i:Int) (by omega) q1
  cases e0
  simp only [Int.toNat_natCast] at x0 x1 x2 x3
  obtain ⟨x,hx⟩:∃ x,x = rd_T87 l (i:Int):=⟨_,rfl⟩
  rw [← hx] at x0 x1 x2 x3
  have hgx:l[i]'d1 = x:=by rw [hx,rd_T87,List.getD_eq_getElem?_getD];simp [d1]
  have hwf:=HOK.out x (by rw [← hgx];exact List.getElem_mem d1)
  simp only [wfIt,Bool.and_eq_true] at hwf
  have HW:=Aside0.mk hwf
  have HSX:Aside0 ((if x.f1 ∈ seen then shownN (x.f0 :: seen) (i + 1) (l.drop (i + 1)) else i) = r):=⟨by have h:=HS.out;rw [List.drop_eq_getElem_cons d1,hgx,shownN] at h;exact h⟩
  have wk:wrap64 ((i:Int) + 1) = (i:Int) + 1:=by have:=HMX.out;unfold wrap64;omega
  have HWK:=Aside0.mk wk
  obtain ⟨n3,hn3⟩:∃ n,n = x.f3.length:=⟨_,rfl⟩
  rw [← hn3] at x3
  have HD1:=Aside0.mk d1
  clear hx hgx hwf HS wk hn3 d1
  go_upto_region 5 with (fail)
  obtain ⟨w2,hw2⟩:∃ W,W = wr.alloc (Obj.cells #[.int .i64 x.f0,.int .i64 x.f1,.string x.f2,.slice A3 n3 c3] 87):=⟨_,rfl⟩
  obtain ⟨g,hgn⟩:∃ g,g = wr.heap.size:=⟨_,rfl⟩
  have hbl:Below wr.heap.size wr w2:=by rw [hw2];exact below_alloc (Below.refl _ _) _
  have HG:Aside0 (w2.heap[g]? = some (.cells #[.int .i64 x.f0,.int .i64 x.f1,.string x.f2,.slice A3 n3 c3] 87 (0,0))):=⟨by rw [hw2,hgn];exact blk_new wr _⟩
  have HM2:=Aside0.mk (HM.out.block (hbl.block _ HM.out.lt))
  have HB2:=Aside0.mk (below_step HB.out hbl)
  rw [← hw2,← hgn]
  have cg0:w2.cell? ⟨g,0,none⟩ = some (.int .i64 x.f0):=(blk_cell HG.out 0).trans rfl
  have cg1:w2.cell? ⟨g,1,none⟩ = some (.int .i64 x.f1):=(blk_cell HG.out 1).trans rfl
  clear hw2 hgn hbl HM HB x0 x1 x2 x3
  by_cases d2:x.f1 ∈ seen
  ·have HL:Aside0 ((seenG seen x.f1).getD (.bool false) = .bool true):=⟨by unfold seenG;rw [if_pos d2];rfl⟩
   have HN:Aside0 (shownN (x.f0 :: seen) (i + 1) (l.drop (i + 1)) = r):=⟨by have h:=HSX.out;rwa [if_pos d2] at h⟩
   clear d2
   go_wp2_with (first | (at_lookup;refine wp_look _ rfl _ _ 133 4 rfl Try.underlying133 _ (zero4b _) w.heap.size (i + 1) (seenG seen) rfl HM2.out x.f1 rfl HW.out.2 _ HL.out ?_) | ((with_reducible refine gate_ (Op.mapUpdate 133 (.tmp 21) (.tmp 23) (.const (.bool true))) rfl ?_);refine wp_store _ rfl (.tmp 21) (.tmp 23) (.const (.bool true)) 133 4 rfl Try.underlying133 w.heap.size (i + 1) (seenG seen) rfl HM2.out (by have h1:=HMX.out;have h2:=HD1.out;simp only [maxLen];omega) x.f0 rfl HW.out.1 (.bool true) rfl ?_;intro w3 hm3 hg3 hs3;have HM3:Aside0 (MapV w3 w.heap.size (i + 1 + 1) (seenG (x.f0 :: seen))):=⟨(by rw [← seenG_put];exact hm3)⟩;have HB3:=Aside0.mk (HB2.out.grown hg3 HB2.out.size (fun k hk=>by cases hk;exact Nat.le_refl _));clear hm3 hg3 hs3 cg0 cg1))
   have wk:=HWK.out
   go_roundg gl
   case measure=>omega
   case rel=>exact ⟨i + 1,x.f0 :: seen,by simp [wk],⟨by have:=HI.out;omega⟩,HN,HM3,HB3⟩
  ·have HL:Aside0 ((seenG seen x.f1).getD (.bool false) = .bool false):=⟨by unfold seenG;rw [if_neg d2];rfl⟩
   have HN:Aside0 (i = r):=⟨by have h:=HSX.out;rwa [if_neg d2] at h⟩
   clear d2
   go_wp2_with (at_lookup;refine wp_look _ rfl _ _ 133 4 rfl Try.underlying133 _ (zero4b _) w.heap.size (i + 1) (seenG seen) rfl HM2.out x.f1 rfl HW.out.2 _ HL.out ?_)
   go_ret
   exact ⟨by rw [HN.out];rfl,HB2.out⟩
def replica_Shown.f (l0:List S87):Option Int:=if (l0.all wfIt && decide (l0.length ≤ 1073741824)) = true then some ((shownN [0] 0 l0:Nat):Int) else none
theorem replica_Shown.calls (A0:Option Addr) (c0:Nat) (l0:List S87) (r:Int) (w:World) (hr0:Kd.C k87 w A0 l0.length l0) (hc0:l0.length ≤ c0) (h:replica_Shown.f l0 = some r) :
 Calls Try.prog 43 #[.slice A0 l0.length c0] w fun e w'=>e = .returned (.int .i64 r) ∧ Below w.heap.size w w':=by
 unfold replica_Shown.f at h
 split at h
 ·rename_i hx
  simp only [Bool.and_eq_true,decide_eq_true_eq,List.all_eq_true] at hx
  obtain rfl:=Option.some.inj h
  exact shown_calls A0 c0 l0 w hr0 hc0 hx.1 hx.2
 ·cases h
end Go.Proofs.Ytlcodfjlbhjkbaa.PDelta
end
section
namespace Go.Proofs.Ytlcodfjlbhjkbaa.PDelta
open Go.RowKit Go.Proofs.YtlcodfjlbhjkbaaW.PrintWords Go.Proofs.YtlcodfjlbhjkbaaW.PrintLast Go.Proofs.YtlcodfjlbhjkbaaW.PrintMore
attribute [local go_sem high] Go.Proofs.Ytlcodfjlbhjkbaa.Ord.leq_str Go.Proofs.Ytlcodfjlbhjkbaa.Ord.gtr_str Go.Proofs.Ytlcodfjlbhjkbaa.Ord.geq_str
def nextF (up:Int) (i sh:Nat):Nat → List S87 → Int → Option Int
 | _,[],nx=>some nx
 | j,y :: r,nx=>if y.f0 = up then (if i < sh ∧ i ≤ j then none else nextF up i sh (j + 1) r y.f1) else nextF up i sh (j + 1) r nx
def climbF (its:List S87) (i sh:Nat):Nat → Int → Nat → Option Nat
 | 0,_,_=>none
 | f + 1,up,st=>if 0 < up ∧ st ≤ its.length then (nextF up i sh 0 its 0).bind fun nx=>climbF its i sh f nx (st + 1) else some st
def pairBad (i sh j:Nat) (x y:S87):Prop:=y.f0 = x.f0 ∨ (j < sh ∧ i < sh ∧ y.f1 = x.f1 ∧ (Op.bytesLess x.f2.toList y.f2.toList = true ∨ y.f2.toList = x.f2.toList ∧ x.f0 < y.f0))
structure TreeAt (k:Nat) (p q:List Int) (l0 l1 l:List S128) (its:List S87) (sh:Nat):Prop where
 draws:chancerykeep1_draws.f k = some true
 p0:paintsF p 1 = some l0
 p1:paintsF q 2 = some l1
 jn:replica_Join.f k l0 l1 = some (l,0)
 it:replica_Items.f k l = some (its,0)
 shn:replica_Shown.f its = some (sh:Int)
 len:its.length ≤ 1073741824
 shl:sh ≤ 1073741824
 climb:∀ i (h:i < its.length),∃ st,climbF its i sh (its.length + 2) (its[i]'h).f1 0 = some st ∧ st ≤ its.length
 pair:∀ i (h:i < its.length) j (hj:j < i),¬ pairBad i sh j (its[i]'h) (its[j]'(by omega))
theorem rd87 {l:List S87} {i:Nat} (h:i < l.length):rd_T87 l (i:Int) = l[i]:=by
 rw [rd_T87,List.getD_eq_getElem?_getD]
 simp [h]
theorem it_cells {w:World} {A:Option Addr} {its:List S87} (h:Kd.C k87 w A its.length its) {i:Nat} (hi:i < its.length):∃ ad B n c,A = some ad ∧ w.cell? (ad.add (i * 4)) = some (.int .i64 (its[i]'hi).f0) ∧ w.cell? ⟨(ad.add (i * 4)).block,(ad.add (i * 4)).off + 1,none⟩ = some (.int .i64 (its[i]'hi).f1) ∧ w.cell? ⟨(ad.add (i * 4)).block,(ad.add (i * 4)).off + 2,none⟩ = some (.string (its[i]'hi).f2) ∧ w.cell? ⟨(ad.add (i * 4)).block,(ad.add (i * 4)).off + 3,none⟩ = some (.slice B n c):=by
 obtain ⟨ad,B,c,e,x0,x1,x2,x3,_,_⟩:=at_T87 h (i:Int) (by omega) (by omega)
 rw [rd87 hi] at x0 x1 x2 x3
 simp only [Int.toNat_natCast] at x0 x1 x2 x3
 exact ⟨ad,B,_,c,e,x0,x1,x2,x3⟩
theorem cut87 {A:Option Addr} {n c:Nat} (hc:n ≤ c) {i:Nat} (hi:i ≤ n) (W:World):Sem.run Try.prog (Instr.slice 70 (.slice A n c) none (some (.int .i64 (i:Int))) none) W = .ok (.slice A i c) W:=by
 obtain ⟨t,ht,hz⟩:=Option.map_eq_some_iff.1 info87
 have:=cut_to 70 87 .i64 Try.underlying70 ht A n c (i:Int) (by omega) (by omega) hc W
 simpa using this
set_option maxRecDepth 100000 in
set_option maxHeartbeats 8000000 in
theorem tree_calls (k:Nat) (A0:Option Addr) (c0:Nat) (p:List Int) (A1:Option Addr) (c1:Nat) (q:List Int) (w:World) (hr0:Kd.C (Kd.int .i64) w A0 p.length p) (hc0:p.length ≤ c0) (hr1:Kd.C (Kd.int .i64) w A1 q.length q) (hc1:q.length ≤ c1)
 {l0 l1 l:List S128} {its:List S87} {sh:Nat} (h:TreeAt k p q l0 l1 l its sh) :
 Calls Try.prog 10 #[.slice A0 p.length c0,.slice A1 q.length c1] w fun e w'=>e = .returned (.bool true) ∧ Below w.heap.size w w':=by
 have HA:=Aside0.mk h
 have HR0:=Aside0.mk (And.intro hr0 hc0)
 have HR1:=Aside0.mk (And.intro hr1 hc1)
 clear h hr0 hc0 hr1 hc1
 go_enter Try.func10,Try.ntmps10
 go_wp2_with (first | (go_at_call 34;(with_reducible refine (chancerykeep1_draws.calls k true _ HA.out.draws).mono ?_);rintro e1 w1 ⟨rfl,hb⟩;have HB1:=Aside0.mk hb;clear hb) | (go_at_call 35;(with_reducible refine (paints_calls A0 c0 p 1 l0 w1 (Kd.C_below HR0.out.1 HB1.out) HR0.out.2 HA.out.p0).mono ?_);rintro e2 w2 ⟨v2,rfl,hR,hb⟩;obtain ⟨B0,d0,rfl,hd0,hC0⟩:=row_C hR;have HC0:=Aside0.mk (And.intro hC0 hd0);have HB2:=Aside0.mk (below_step HB1.out hb);clear hR hb hC0 hd0) | (go_at_call 35;(with_reducible refine (paints_calls A1 c1 q 2 l1 w2 (Kd.C_below HR1.out.1 HB2.out) HR1.out.2 HA.out.p1).mono ?_);rintro e3 w3 ⟨v3,rfl,hR,hb⟩;obtain ⟨B1,d1,rfl,hd1,hC1⟩:=row_C hR;have HC1:=Aside0.mk (And.intro hC1 hd1);have HC0':=Aside0.mk (Kd.C_below HC0.out.1 hb);have HB3:=Aside0.mk (below_step HB2.out hb);clear hR hb hC1 hd1) | (go_at_call 36;(with_reducible refine (replica_Join.calls k B0 d0 l0 B1 d1 l1 l 0 _ HC0'.out HC0.out.2 HC1.out.1 HC1.out.2 HA.out.jn).mono ?_);rintro e4 w4 ⟨v4,rfl,hR,hb⟩;obtain ⟨B2,d2,rfl,hd2,hC2⟩:=row_C hR;have HC2:=Aside0.mk (And.intro hC2 hd2);have HB4:=Aside0.mk (below_step HB3.out hb);clear hR hb hC2 hd2) | (go_at_call 37;(with_reducible refine (replica_Items.calls k B2 d2 l its 0 _ HC2.out.1 HC2.out.2 HA.out.it).mono ?_);rintro e5 w5 ⟨v5,rfl,hN,hb⟩;obtain ⟨IA,ic,rfl,hic,hIA⟩:=Kd.N_reads hN;have HIA:=Aside0.mk (And.intro hIA hic);have HB5:=Aside0.mk (below_step HB4.out hb);clear hN hIA hic hb) | (go_at_call 43;(with_reducible refine (replica_Shown.calls IA ic its (sh:Int) _ HIA.out.1 HIA.out.2 HA.out.shn).mono ?_);rintro e6 w6 ⟨rfl,hb⟩;have HI6:=Aside0.mk (Kd.C_below HIA.out.1 hb);have HB6:=Aside0.mk (below_step HB5.out hb);clear hb))
 have HLEN:=Aside0.mk (And.intro HA.out.len HA.out.shl)
 have HIC:Aside0 (its.length ≤ ic):=⟨HIA.out.2⟩
 clear HB1 HB2 HB3 HB4 HB5 HC0 HC0' HC1 HC2 HR0 HR1 HIA
 go_loopg [44] its.length (fun m v44 wr=>∃ i:Nat,v44 = .int .i64 (i:Int) ∧ Aside0 (m + i = its.length) ∧ Aside0 (Below w6.heap.size w6 wr))
 case atStart=>exact ⟨0,rfl,⟨rfl⟩,⟨Below.refl _ _⟩⟩
 case round =>
  obtain ⟨i,rfl,HI,HB⟩:=hrel
  by_cases d1:i < its.length
  rotate_left
  ·have g1:decide ((i:Int) < (its.length:Int)) = false:=decide_eq_false (by omega)
   have g1':decide (i < its.length) = false:=decide_eq_false d1
   clear d1
   go_wp2
   go_ret
   exact ⟨rfl,below_then HB6.out HB6.out.size HB.out⟩
  have g1:decide ((i:Int) < (its.length:Int)) = true:=decide_eq_true (by omega)
  have g1':decide (i < its.length) = true:=decide_eq_true d1
  have q1:(i:Int) < (its.length:Int):=by omega
  obtain ⟨gl,rfl⟩:∃ gl,gk = gl + 1:=⟨gk - 1,by have:=HI.out;omega⟩
  obtain ⟨ad,B,n,c,ea,x0,x1,x2,x3⟩:=it_cells (Kd.C_below HI6.out HB.out) d1
  have HEA:=Aside0.mk ea
  obtain ⟨x,hx⟩:∃ x,x = its[i]'d1:=⟨_,rfl⟩
  rw [← hx] at x0 x1 x2
  obtain ⟨stE,hst1,hst2⟩:=HA.out.climb i d1
  rw [← hx] at hst1
  have HCL:=Aside0.mk hst1
  have HSE:=Aside0.mk hst2
  have HXE:Aside0 (∀ h:i < its.length,its[i]'h = x):=⟨fun _=>hx.symm⟩
  have HD1:=Aside0.mk d1
  subst ea
  have wk:wrap64 ((i:Int) + 1) = (i:Int) + 1:=by have:=HLEN.out.1;unfold wrap64;omega
  have HWK:=Aside0.mk wk
  clear hx hst1 hst2 wk d1
  go_upto_region 11 with (fail)
  obtain ⟨w2,hw2⟩:∃ W,W = wr.alloc (Obj.cells #[.int .i64 x.f0,.int .i64 x.f1,.string x.f2,.slice B n c] 87):=⟨_,rfl⟩
  obtain ⟨g,hgn⟩:∃ g,g = wr.heap.size:=⟨_,rfl⟩
  have hbl:Below wr.heap.size wr w2:=by rw [hw2];exact below_alloc (Below.refl _ _) _
  have HG:Aside0 (w2.heap[g]? = some (.cells #[.int .i64 x.f0,.int .i64 x.f1,.string x.f2,.slice B n c] 87 (0,0))):=⟨by rw [hw2,hgn];exact blk_new wr _⟩
  have HB2:=Aside0.mk (below_step HB.out hbl)
  rw [← hw2,← hgn]
  have cg1:w2.cell? ⟨g,1,none⟩ = some (.int .i64 x.f1):=(blk_cell HG.out 1).trans rfl
  clear hw2 hgn hbl HB x0 x1 x2 x3
  go_wp2_with fail
  clear cg1
  go_loopg [12,13] (its.length + 2) (fun m v12 v13 wc=>∃ (up:Int) (st:Nat),v12 = .int .i64 up ∧ v13 = .int .i64 (st:Int) ∧ Aside0 (climbF its i sh m up st = some stE) ∧ Aside0 (m + st = its.length + 2) ∧ Aside0 (Below w2.heap.size w2 wc))
  case atStart=>exact ⟨x.f1,0,rfl,rfl,HCL,⟨rfl⟩,⟨Below.refl _ _⟩⟩
  case round =>
   obtain ⟨up,st,rfl,rfl,HC,HST,HBC⟩:=hrel
   clear HCL
   obtain ⟨gm,rfl⟩:∃ gm,gk = gm + 1:=by
    cases gk with
    | zero=>have:=HC.out;cases this
    | succ gm=>exact ⟨gm,rfl⟩
   have hc:=HC.out
   rw [climbF] at hc
   by_cases d2:0 < up ∧ st ≤ its.length
   ·rw [if_pos d2] at hc
    obtain ⟨nxE,hn1,hn2⟩:=Option.bind_eq_some_iff.1 hc
    have HN:=Aside0.mk hn1
    have HN2:=Aside0.mk hn2
    have g2:decide (0 < up) = true:=decide_eq_true d2.1
    have g3:decide ((st:Int) ≤ (its.length:Int)) = true:=decide_eq_true (by omega)
    have g3':decide (st ≤ its.length) = true:=decide_eq_true d2.2
    have wk2:wrap64 ((st:Int) + 1) = (st:Int) + 1:=by have:=HLEN.out.1;unfold wrap64;omega
    have HWK2:=Aside0.mk wk2
    clear hc hn1 hn2 d2 wk2 HC
    go_wp2_with fail
    go_loopg [14,61] its.length (fun m v14 v61 wd=>∃ (nx:Int) (j:Nat),v14 = .int .i64 nx ∧ v61 = .int .i64 (j:Int) ∧ Aside0 (m + j = its.length) ∧ Aside0 (nextF up i sh j (its.drop j) nx = some nxE) ∧ Aside0 (Below w2.heap.size w2 wd))
    case atStart=>exact ⟨0,0,rfl,rfl,⟨rfl⟩,HN,HBC⟩
    case round =>
     obtain ⟨nx,j,rfl,rfl,HJ,HNJ,HBD⟩:=hrel
     clear HN
     by_cases d3:j < its.length
     rotate_left
     ·have g4:decide ((j:Int) < (its.length:Int)) = false:=decide_eq_false (by omega)
      have g4':decide (j < its.length) = false:=decide_eq_false d3
      have HX:Aside0 (nx = nxE):=⟨by have h1:=HNJ.out;rw [List.drop_eq_nil_of_le (by omega)] at h1;exact Option.some.inj h1⟩
      have hx:=HX.out
      subst hx
      clear d3 HX
      go_wp2
      have wk2:=HWK2.out
      go_roundg gm
      case measure=>omega
      case rel=>exact ⟨nx,st + 1,rfl,by simp [wk2],HN2,⟨by have:=HST.out;omega⟩,HBD⟩
     have g4:decide ((j:Int) < (its.length:Int)) = true:=decide_eq_true (by omega)
     have g4':decide (j < its.length) = true:=decide_eq_true d3
     have q2:(j:Int) < (its.length:Int):=by omega
     obtain ⟨gn,rfl⟩:∃ gn,gk = gn + 1:=⟨gk - 1,by have:=HJ.out;omega⟩
     obtain ⟨ad',B',n',c',eb,y0,y1,y2,y3⟩:=it_cells (Kd.C_below HI6.out (below_step HB2.out HBD.out)) d3
     cases eb
     obtain ⟨y,hy⟩:∃ y,y = its[j]'d3:=⟨_,rfl⟩
     rw [← hy] at y0 y1 y2
     have hnj:=HNJ.out
     rw [List.drop_eq_getElem_cons d3,← hy,nextF] at hnj
     have wk3:wrap64 ((j:Int) + 1) = (j:Int) + 1:=by have:=HLEN.out.1;unfold wrap64;omega
     have HWK3:=Aside0.mk wk3
     have HNX:=Aside0.mk hnj
     clear hy hnj wk3 HNJ d3
     go_upto_region 17 with (fail)
     obtain ⟨w3,hw3⟩:∃ W,W = wr.alloc (Obj.cells #[.int .i64 y.f0,.int .i64 y.f1,.string y.f2,.slice B' n' c'] 87):=⟨_,rfl⟩
     obtain ⟨g',hgn'⟩:∃ g,g = wr.heap.size:=⟨_,rfl⟩
     have HG':Aside0 (w3.heap[g']? = some (.cells #[.int .i64 y.f0,.int .i64 y.f1,.string y.f2,.slice B' n' c'] 87 (0,0))):=⟨by rw [hw3,hgn'];exact blk_new wr _⟩
     have HB3:Aside0 (Below w2.heap.size w2 w3):=⟨by rw [hw3];exact below_step HBD.out (below_alloc (Below.refl _ _) _)⟩
     rw [← hw3,← hgn']
     have ch0:w3.cell? ⟨g',0,none⟩ = some (.int .i64 y.f0):=(blk_cell HG'.out 0).trans rfl
     have ch1:w3.cell? ⟨g',1,none⟩ = some (.int .i64 y.f1):=(blk_cell HG'.out 1).trans rfl
     clear hw3 hgn' HBD y0 y1 y2 y3
     by_cases d4:y.f0 = up
     ·have hnx:=HNX.out
      rw [if_pos d4] at hnx
      have t1:(y.f0 == up) = true:=by simpa using d4
      by_cases d5:i < sh ∧ i ≤ j
      ·rw [if_pos d5] at hnx
       cases hnx
      ·rw [if_neg d5] at hnx
       have HNN:=Aside0.mk hnx
       clear hnx d4 HNX
       by_cases d6:i < sh
       ·have g5:decide ((i:Int) < (sh:Int)) = true:=decide_eq_true (by omega)
        have g5':decide (i < sh) = true:=decide_eq_true d6
        have g6:decide ((i:Int) ≤ (j:Int)) = false:=decide_eq_false (by omega)
        have g6':decide (i ≤ j) = false:=decide_eq_false (by omega)
        clear d5 d6
        go_wp2
        have wk3:=HWK3.out
        go_roundg gn
        case measure=>omega
        case rel=>exact ⟨y.f1,j + 1,rfl,by simp [wk3],⟨by have:=HJ.out;omega⟩,HNN,HB3⟩
       ·have g5:decide ((i:Int) < (sh:Int)) = false:=decide_eq_false (by omega)
        have g5':decide (i < sh) = false:=decide_eq_false d6
        clear d5 d6
        go_wp2
        have wk3:=HWK3.out
        go_roundg gn
        case measure=>omega
        case rel=>exact ⟨y.f1,j + 1,rfl,by simp [wk3],⟨by have:=HJ.out;omega⟩,HNN,HB3⟩
     ·have hnx:=HNX.out
      rw [if_neg d4] at hnx
      have t1:(y.f0 == up) = false:=by simpa using d4
      have HNN:=Aside0.mk hnx
      clear hnx d4 HNX
      go_wp2
      have wk3:=HWK3.out
      go_roundg gn
      case measure=>omega
      case rel=>exact ⟨nx,j + 1,rfl,by simp [wk3],⟨by have:=HJ.out;omega⟩,HNN,HB3⟩
   ·rw [if_neg d2] at hc
    have hse:st = stE:=Option.some.inj hc
    have hsl:=HSE.out
    rw [← hse] at hsl
    have g2:decide (0 < up) = false:=decide_eq_false (fun e=>d2 ⟨e,hsl⟩)
    have g3:decide ((its.length:Int) < (st:Int)) = false:=decide_eq_false (by omega)
    have g3':decide (its.length < st) = false:=decide_eq_false (by omega)
    have hcut:∀ W,Sem.run Try.prog (Instr.slice 70 (.slice (some ad) its.length ic) none (some (.int .i64 (i:Int))) none) W = .ok (.slice (some ad) i ic) W:=fun W=>cut87 HIC.out (by have:=HD1.out;omega) W
    clear hc hse hsl d2 HC HST
    go_wp2_with fail
    clear hcut
    go_loopg [92] i (fun m v92 wd=>∃ j:Nat,v92 = .int .i64 (j:Int) ∧ Aside0 (m + j = i) ∧ Aside0 (Below w2.heap.size w2 wd))
    case atStart=>exact ⟨0,rfl,⟨rfl⟩,HBC⟩
    case round =>
     obtain ⟨j,rfl,HJ,HBD⟩:=hrel
     clear HBC
     by_cases d3:j < i
     rotate_left
     ·have g4:decide ((j:Int) < (i:Int)) = false:=decide_eq_false (by omega)
      have g4':decide (j < i) = false:=decide_eq_false d3
      clear d3
      go_wp2
      have wk:=HWK.out
      go_roundg gl
      case measure=>omega
      case rel=>exact ⟨i + 1,by simp [wk],⟨by have:=HI.out;omega⟩,⟨below_step HB2.out HBD.out⟩⟩
     have g4:decide ((j:Int) < (i:Int)) = true:=decide_eq_true (by omega)
     have g4':decide (j < i) = true:=decide_eq_true d3
     have q2:(j:Int) < (i:Int):=by omega
     obtain ⟨gn,rfl⟩:∃ gn,gk = gn + 1:=⟨gk - 1,by have:=HJ.out;omega⟩
     have hjl:j < its.length:=by have:=HD1.out;omega
     obtain ⟨ad',B',n',c',eb,y0,y1,y2,y3⟩:=it_cells (Kd.C_below HI6.out (below_step HB2.out HBD.out)) hjl
     cases eb
     obtain ⟨y,hy⟩:∃ y,y = its[j]'hjl:=⟨_,rfl⟩
     rw [← hy] at y0 y1 y2
     have hpb:=HA.out.pair i HD1.out j d3
     rw [← hy,HXE.out HD1.out] at hpb
     have HPB:=Aside0.mk hpb
     have wk3:wrap64 ((j:Int) + 1) = (j:Int) + 1:=by have:=HLEN.out.1;unfold wrap64;omega
     have HWK3:=Aside0.mk wk3
     have cx0:wr.cell? ⟨g,0,none⟩ = some (.int .i64 x.f0):=(blk_cell ((HBD.out.block g (blk_lt HG.out)).trans HG.out) 0).trans rfl
     clear hy hpb wk3 d3
     go_upto_region 29 with (fail)
     obtain ⟨w3,hw3⟩:∃ W,W = wr.alloc (Obj.cells #[.int .i64 y.f0,.int .i64 y.f1,.string y.f2,.slice B' n' c'] 87):=⟨_,rfl⟩
     obtain ⟨g',hgn'⟩:∃ g,g = wr.heap.size:=⟨_,rfl⟩
     have HG':Aside0 (w3.heap[g']? = some (.cells #[.int .i64 y.f0,.int .i64 y.f1,.string y.f2,.slice B' n' c'] 87 (0,0))):=⟨by rw [hw3,hgn'];exact blk_new wr _⟩
     have HB3:Aside0 (Below w2.heap.size w2 w3):=⟨by rw [hw3];exact below_step HBD.out (below_alloc (Below.refl _ _) _)⟩
     rw [← hw3,← hgn']
     have HGX:=Aside0.mk ((HB3.out.block g (blk_lt HG.out)).trans HG.out)
     have ch0:w3.cell? ⟨g',0,none⟩ = some (.int .i64 y.f0):=(blk_cell HG'.out 0).trans rfl
     have ch1:w3.cell? ⟨g',1,none⟩ = some (.int .i64 y.f1):=(blk_cell HG'.out 1).trans rfl
     have ch2:w3.cell? ⟨g',2,none⟩ = some (.string y.f2):=(blk_cell HG'.out 2).trans rfl
     have cz0:w3.cell? ⟨g,0,none⟩ = some (.int .i64 x.f0):=(blk_cell HGX.out 0).trans rfl
     have cz1:w3.cell? ⟨g,1,none⟩ = some (.int .i64 x.f1):=(blk_cell HGX.out 1).trans rfl
     have cz2:w3.cell? ⟨g,2,none⟩ = some (.string x.f2):=(blk_cell HGX.out 2).trans rfl
     clear hw3 hgn' HBD y0 y1 y2 y3 cx0
     have t1:(y.f0 == x.f0) = false:=by
      have h:=HPB.out
      unfold pairBad at h
      simpa using fun e=>h (.inl e)
     by_cases e1:j < sh
     ·have g5:decide ((j:Int) < (sh:Int)) = true:=decide_eq_true (by omega)
      have g5':decide (j < sh) = true:=decide_eq_true e1
      by_cases e2:i < sh
      ·have g6:decide ((i:Int) < (sh:Int)) = true:=decide_eq_true (by omega)
       have g6':decide (i < sh) = true:=decide_eq_true e2
       by_cases e3:y.f1 = x.f1
       ·have t2:(y.f1 == x.f1) = true:=by simpa using e3
        have hb:¬ (Op.bytesLess x.f2.toList y.f2.toList = true ∨ y.f2.toList = x.f2.toList ∧ x.f0 < y.f0):=fun h=>HPB.out (.inr ⟨e1,e2,e3,h⟩)
        have t3:Op.bytesLess x.f2.toList y.f2.toList = false:=by
         cases h:Op.bytesLess x.f2.toList y.f2.toList with
         | false=>rfl
         | true=>exact absurd (.inl h) hb
        by_cases e4:y.f2.toList = x.f2.toList
        ·have t4:(y.f2.toList == x.f2.toList) = true:=by simpa using e4
         have t5:decide (x.f0 < y.f0) = false:=decide_eq_false (fun h=>hb (.inr ⟨e4,h⟩))
         clear hb e1 e2 e3 e4
         go_wp2
         have wk3:=HWK3.out
         go_roundg gn
         case measure=>omega
         case rel=>exact ⟨j + 1,by simp [wk3],⟨by have:=HJ.out;omega⟩,HB3⟩
        ·have t4:(y.f2.toList == x.f2.toList) = false:=by simpa using e4
         clear hb e1 e2 e3 e4
         go_wp2
         have wk3:=HWK3.out
         go_roundg gn
         case measure=>omega
         case rel=>exact ⟨j + 1,by simp [wk3],⟨by have:=HJ.out;omega⟩,HB3⟩
       ·have t2:(y.f1 == x.f1) = false:=by simpa using e3
        clear e1 e2 e3
        go_wp2
        have wk3:=HWK3.out
        go_roundg gn
        case measure=>omega
        case rel=>exact ⟨j + 1,by simp [wk3],⟨by have:=HJ.out;omega⟩,HB3⟩
      ·have g6:decide ((i:Int) < (sh:Int)) = false:=decide_eq_false (by omega)
       have g6':decide (i < sh) = false:=decide_eq_false e2
       clear e1 e2
       go_wp2
       have wk3:=HWK3.out
       go_roundg gn
       case measure=>omega
       case rel=>exact ⟨j + 1,by simp [wk3],⟨by have:=HJ.out;omega⟩,HB3⟩
     ·have g5:decide ((j:Int) < (sh:Int)) = false:=decide_eq_false (by omega)
      have g5':decide (j < sh) = false:=decide_eq_false e1
      clear e1
      go_wp2
      have wk3:=HWK3.out
      go_roundg gn
      case measure=>omega
      case rel=>exact ⟨j + 1,by simp [wk3],⟨by have:=HJ.out;omega⟩,HB3⟩
end Go.Proofs.Ytlcodfjlbhjkbaa.PDelta
end
section
namespace Go.Proofs.Ytlcodfjlbhjkbaa.PDelta
open Go.RowKit Go.Maps Go.Sort Go.Proofs.YtlcodfjlbhjkbaaW.PrintWords Go.Proofs.YtlcodfjlbhjkbaaW.PrintLast Go.Proofs.YtlcodfjlbhjkbaaW.PrintMore
def PBF (seen:List Int):List S87 → Prop
 | []=>True
 | y :: r=>y.f1 ∈ seen ∧ PBF (y.f0 :: seen) r
theorem PBF.append:∀ (A B:List S87) (seen:List Int),PBF seen A → (∀ seen',(∀ z ∈ seen,z ∈ seen') → PBF seen' B) → PBF seen (A ++ B)
 | [],B,seen,_,hB=>hB seen (fun z hz=>hz)
 | y :: r,B,seen,hA,hB=>⟨hA.1,PBF.append r B _ hA.2 (fun seen' hs=>hB seen' (fun z hz=>hs z (List.mem_cons_of_mem _ hz)))⟩
theorem tree_pbf (b:Brd):∀ (k:Nat) (p:Int) (seen:List Int),p ∈ seen → PBF seen (treeF k b p)
 | 0,p,seen,_=>trivial
 | k + 1,p,seen,hp=>by
  unfold treeF
  have hk:∀ x ∈ kidsF b p,x.f1 = p:=fun x hx=>(kids_mem.1 hx).2
  generalize kidsF b p = L at hk
  induction L generalizing seen with
  | nil=>exact trivial
  | cons x r ih =>
   rw [List.flatMap_cons]
   refine PBF.append (x :: treeF k b x.f0) _ seen ⟨by rw [hk x List.mem_cons_self];exact hp,tree_pbf b k x.f0 _ List.mem_cons_self⟩ (fun seen' hs=>ih seen' (hs p hp) (fun y hy=>hk y (List.mem_cons_of_mem _ hy)))
theorem PBF.get:∀ (L:List S87) (seen:List Int),PBF seen L → ∀ i (h:i < L.length),(L[i]'h).f1 ∈ seen ∨ ∃ j,∃ hj:j < i,(L[j]'(by omega)).f0 = (L[i]'h).f1
 | [],_,_,i,h=>by simp at h
 | y :: r,seen,hp,0,h=>.inl hp.1
 | y :: r,seen,hp,i + 1,h=>by
  have h':i < r.length:=by simpa using h
  rcases PBF.get r _ hp.2 i h' with h1 | ⟨j,hj,h1⟩
  ·rcases List.mem_cons.1 h1 with h1 | h1
   ·exact .inr ⟨0,by omega,h1.symm⟩
   ·exact .inl h1
  ·exact .inr ⟨j + 1,by omega,h1⟩
theorem shownN_all:∀ (L:List S87) (seen:List Int) (n:Nat) (R:List S87),PBF seen L → (∀ x ∈ R,x.f1 ∉ seen ∧ ∀ y ∈ L,y.f0 ≠ x.f1) → shownN seen n (L ++ R) = n + L.length
 | [],seen,n,R,_,hR=>by
  cases R with
  | nil=>rfl
  | cons x r=>rw [List.nil_append,shownN,if_neg (hR x List.mem_cons_self).1];rfl
 | y :: L,seen,n,R,hp,hR=>by
  rw [List.cons_append,shownN,if_pos hp.1,shownN_all L _ (n + 1) R hp.2 (fun x hx=>⟨fun h=>?_,fun z hz=>(hR x hx).2 z (List.mem_cons_of_mem _ hz)⟩)]
  ·simp only [List.length_cons];omega
  ·rcases List.mem_cons.1 h with h | h
   ·exact (hR x hx).2 y List.mem_cons_self h.symm
   ·exact (hR x hx).1 h
theorem shownN_map (b:Brd):∀ (L:List S87) (seen:List Int) (n:Nat),shownN seen n (L.map (fillF b)) = shownN seen n L
 | [],_,_=>rfl
 | x :: r,seen,n=>by
  rw [List.map_cons,shownN,shownN]
  show (if x.f1 ∈ seen then shownN (x.f0 :: seen) (n + 1) (r.map (fillF b)) else n) = _
  rw [shownN_map b r]
theorem nextF_map (b:Brd) (up:Int) (i sh:Nat):∀ (L:List S87) (j:Nat) (nx:Int),nextF up i sh j (L.map (fillF b)) nx = nextF up i sh j L nx
 | [],_,_=>rfl
 | x :: r,j,nx=>by
  rw [List.map_cons,nextF,nextF]
  simp only [nextF_map b up i sh r]
  rfl
theorem climbF_map (b:Brd) (L:List S87) (i sh:Nat):∀ (f:Nat) (up:Int) (st:Nat),climbF (L.map (fillF b)) i sh f up st = climbF L i sh f up st
 | 0,_,_=>rfl
 | f + 1,up,st=>by
  rw [climbF,climbF,nextF_map,List.length_map]
  congr 2
  funext nx
  exact climbF_map b L i sh f nx (st + 1)
theorem nextF_none {up:Int} {i sh:Nat}:∀ (L:List S87) (j:Nat) (nx:Int),(∀ y ∈ L,y.f0 ≠ up) → nextF up i sh j L nx = some nx
 | [],_,_,_=>rfl
 | x :: r,j,nx,h=>by rw [nextF,if_neg (h x List.mem_cons_self)];exact nextF_none r _ _ (fun y hy=>h y (List.mem_cons_of_mem _ hy))
theorem nextF_some {up:Int} {i sh:Nat}:∀ (L:List S87) (j:Nat) (nx:Int) (m:Nat) (hm:m < L.length),L.Pairwise (fun x y=>x.f0 ≠ y.f0) → (L[m]'hm).f0 = up → (i < sh → j + m < i) → nextF up i sh j L nx = some (L[m]'hm).f1
 | [],_,_,m,hm,_,_,_=>by simp at hm
 | x :: r,j,nx,0,hm,hp,hu,hi=>by
  rw [List.pairwise_cons] at hp
  have hu:x.f0 = up:=hu
  rw [nextF,if_pos hu,if_neg (by omega)]
  exact nextF_none r _ _ (fun y hy e=>hp.1 y hy (hu.trans e.symm))
 | x :: r,j,nx,m + 1,hm,hp,hu,hi=>by
  rw [List.pairwise_cons] at hp
  have hm':m < r.length:=by simpa using hm
  have hu':(r[m]'hm').f0 = up:=hu
  have hne:x.f0 ≠ up:=fun e=>hp.1 _ (List.getElem_mem hm') (e.trans hu'.symm)
  rw [nextF,if_neg hne]
  exact nextF_some r (j + 1) nx m hm' hp.2 hu' (fun h=>by have:=hi h;omega)
theorem order_nd {b:Brd} (h:BOK b):(orderL b).Pairwise (fun x y=>x.f0 ≠ y.f0):=by
 unfold orderL
 rw [List.pairwise_append]
 refine ⟨tree_nd h _ _,?_,fun x hx y hy e=>?_⟩
 ·unfold restF
  exact ((sortB_perm ltN b.its).symm.pairwise h.nd (fun h=>Ne.symm h)).filter _
 ·unfold restF at hy
  have:=(List.mem_filter.1 hy).2
  have hi:isIn (shownL b) y.f0 = true:=List.any_eq_true.2 ⟨x,hx,by simpa using e⟩
  rw [hi] at this
  cases this
theorem order_mem {b:Brd} (h:BOK b) (x:S87):x ∈ orderL b ↔ x ∈ b.its:=by
 unfold orderL restF
 rw [List.mem_append,List.mem_filter,(sortB_perm ltN b.its).mem_iff]
 constructor
 ·rintro (h1 | h1)
  ·exact (tree_mem h _ _ x h1).1
  ·exact h1.1
 ·intro hx
  cases hi:isIn (shownL b) x.f0 with
  | false=>exact .inr ⟨hx,by rfl⟩
  | true =>
   obtain ⟨y,hy,e⟩:=List.any_eq_true.1 hi
   have e:y.f0 = x.f0:=by simpa using e
   have h1:=h.it_of (tree_mem h _ _ y hy).1
   rw [e,h.it_of hx] at h1
   cases h1
   exact .inl hy
theorem order_length {b:Brd} (h:BOK b):(orderL b).length = b.its.length:=Nat.le_antisymm (nd_le _ _ _ (order_nd h) (fun x hx=>(order_mem h x).1 hx)) (nd_le _ _ _ h.nd (fun x hx=>(order_mem h x).2 hx))
theorem rest_off {b:Brd} (h:BOK b):∀ x ∈ restF b (shownL b),x.f1 ∉ [0] ∧ ∀ y ∈ shownL b,y.f0 ≠ x.f1:=by
 intro x hx
 unfold restF at hx
 obtain ⟨hx1,hx2⟩:=List.mem_filter.1 hx
 have hxi:x ∈ b.its:=(sortB_perm ltN b.its).mem_iff.1 hx1
 have hno:x ∉ shownL b:=fun hm=>by
  have hi:isIn (shownL b) x.f0 = true:=List.any_eq_true.2 ⟨x,hm,by simp⟩
  rw [hi] at hx2
  cases hx2
 have key:∀ j,Up b 0 x.f0 (j + 1) → False:=fun j hu=>hno (by
  have hd:=(hu.dp (.stop (Int.le_refl 0))).le h
  exact mem_tree h hxi (b.its.length + 1) j 0 (by omega) hu)
 refine ⟨fun e=>?_,fun y hy e=>?_⟩
 ·have e:x.f1 = 0:=by simpa using e
  exact key 0 (.step (h.pos x hxi) (h.it_of hxi) (by rw [e];exact .here))
 ·obtain ⟨_,j,hu⟩:=tree_mem h _ _ y hy
  exact key (j + 1) (.step (h.pos x hxi) (h.it_of hxi) (by rw [← e];exact hu))
theorem shown_len {b:Brd} (h:BOK b):shownN [0] 0 (orderL b) = (shownL b).length:=by
 unfold orderL
 rw [shownN_all (shownL b) [0] 0 _ (tree_pbf b _ 0 [0] (by simp)) (rest_off h)]
 omega
theorem order_get {b:Brd} {i:Nat} (hi:i < (shownL b).length):∃ h:i < (orderL b).length,(orderL b)[i]'h = (shownL b)[i]:=by
 have h:i < (orderL b).length:=by unfold orderL;rw [List.length_append];omega
 refine ⟨h,?_⟩
 unfold orderL
 exact List.getElem_append_left hi
theorem climb_some {b:Brd} (h:BOK b) (i:Nat):∀ (n:Nat) (up:Int) (st f:Nat),Dp b up n → st + n + 1 ≤ (orderL b).length → n + 2 ≤ f →
 (i < (shownL b).length → up ≤ 0 ∨ ∃ j,∃ hj:j < i,∃ hs:j < (shownL b).length,((shownL b)[j]'hs).f0 = up) → ∃ st',climbF (orderL b) i (shownL b).length f up st = some st' ∧ st' ≤ st + n + 1
 | n,up,st,0,_,_,hf,_=>by omega
 | n,up,st,f + 1,hd,hl,hf,hc=>by
  rw [climbF]
  by_cases h0:0 < up
  ·rw [if_pos ⟨h0,by omega⟩]
   cases hd with
   | stop hs=>omega
   | gone _ hn =>
    rw [nextF_none (orderL b) 0 0 (fun y hy e=>by
     have:=h.it_of ((order_mem h y).1 hy)
     rw [e,hn] at this
     cases this)]
    cases f with
    | zero=>omega
    | succ f =>
     refine ⟨st + 1,?_,by omega⟩
     simp only [Option.bind_some]
     rw [climbF,if_neg (by omega)]
   | @up _ x m _ hx hd' =>
    obtain ⟨hxi,hx0⟩:=it_mem hx
    obtain ⟨j,hj,hje⟩:=List.getElem_of_mem ((order_mem h x).2 hxi)
    have hnx:nextF up i (shownL b).length 0 (orderL b) 0 = some x.f1:=by
     have:=nextF_some (up:=up) (i:=i) (sh:=(shownL b).length) (orderL b) 0 0 j hj (order_nd h) (by rw [hje,hx0]) (fun hi=>by
      rcases hc hi with h1 | ⟨j',hj',hs',e'⟩
      ·omega
      ·obtain ⟨h2,h3⟩:=order_get hs'
       by_cases hjj:j = j'
       ·omega
       ·exfalso
        have hp:=List.pairwise_iff_getElem.1 (order_nd h)
        rcases Nat.lt_or_gt_of_ne hjj with hlt | hlt
        ·exact hp j j' hj h2 hlt (by rw [hje,h3,e',hx0])
        ·exact hp j' j h2 hj hlt (by rw [hje,h3,e',hx0]))
     rw [this,hje]
    rw [hnx]
    simp only [Option.bind_some]
    obtain ⟨st',h1,h2⟩:=climb_some h i m x.f1 (st + 1) f hd' (by omega) (by omega) (fun hi=>by
     rcases hc hi with h1 | ⟨j',hj',hs',e'⟩
     ·omega
     ·have hpb:=PBF.get (shownL b) [0] (tree_pbf b _ 0 [0] (by simp)) j' hs'
      have hxx:(shownL b)[j'] = x:=by
       have h3:=h.it_of (tree_mem h _ _ _ (List.getElem_mem hs')).1
       rw [e',hx] at h3
       exact (Option.some.inj h3).symm
      rw [hxx] at hpb
      rcases hpb with hpb | ⟨j'',hj'',hpb⟩
      ·left
       have:x.f1 = 0:=by simpa using hpb
       omega
      ·exact .inr ⟨j'',by omega,by omega,hpb⟩)
    exact ⟨st',h1,by omega⟩
  ·rw [if_neg (fun e=>h0 e.1)]
   exact ⟨st,rfl,by omega⟩
theorem pair_ok {b:Brd} (h:BOK b) {i j:Nat} (hi:i < (orderL b).length) (hj:j < i):¬ pairBad i (shownL b).length j ((orderL b)[i]'hi) ((orderL b)[j]'(by omega)):=by
 rintro (e | ⟨e1,e2,e3,e4⟩)
 ·exact List.pairwise_iff_getElem.1 (order_nd h) j i (by omega) hi hj e
 ·obtain ⟨h1,h2⟩:=order_get e1
  obtain ⟨h3,h4⟩:=order_get e2
  rw [h2,h4] at e3 e4
  have hs:=List.pairwise_iff_getElem.1 (tree_sib h (fun a c=>ltP c a = false) (kids_sorted b) (b.its.length + 1) 0) j i e1 e2 hj e3
  rw [ltP_eq,← Bool.not_eq_true,lt2_iff] at hs
  rcases e4 with e4 | ⟨e4,e5⟩
  ·exact hs (.inl e4)
  ·exact hs (.inr ⟨e4.symm,e5⟩)
theorem play_pars (P:Int → Prop) (k:Nat):∀ (l:List S128) (b bE:Brd),playF k l b = some bE → (∀ o ∈ l,P o.f4) → (∀ x ∈ b.its,P x.f1) → ∀ x ∈ bE.its,P x.f1
 | [],b,bE,h,_,hb=>by cases h;exact hb
 | o :: l,b,bE,h,hl,hb=>by
  have hl':∀ o ∈ l,P o.f4:=fun x hx=>hl x (List.mem_cons_of_mem _ hx)
  unfold playF at h
  split at h
  ·obtain ⟨r,hr,h⟩:=Option.bind_eq_some_iff.1 h
   exact play_pars P k l _ bE h hl' hb
  ·obtain ⟨t,ht,h⟩:=Option.bind_eq_some_iff.1 h
   split at h
   ·exact play_pars P k l b bE h hl' hb
   ·refine play_pars P k l _ bE h hl' (fun x hx=>?_)
    rcases List.mem_append.1 hx with hx | hx
    ·exact hb x (List.mem_filter.1 hx).1
    ·obtain rfl:x = _:=by simpa using hx
     exact hl o List.mem_cons_self
theorem tree_law (p q:List Int):∃ k l0 l1 l its sh,TreeAt k p q l0 l1 l its sh:=by
 obtain ⟨l0,e0,n0,s0,v0⟩:=paints_some p (site:=1) (by omega)
 obtain ⟨l1,e1,n1,s1,v1⟩:=paints_some q (site:=2) (by omega)
 have hV:∀ o ∈ l0 ++ l1,OpV o:=fun o ho=>(List.mem_append.1 ho).elim (fun h=>(v0 o h).1) (fun h=>(v1 o h).1)
 have hO:OneSt (l0 ++ l1):=by
  intro x hx y hy h1 h2
  have key:∀ {l:List S128},l.Pairwise stLt → x ∈ l → y ∈ l → x = y:=fun hs a b=>(stLt.total hs a b).elim id (fun h=>h.elim (fun h=>absurd h h1) (fun h=>absurd h h2))
  have far:x.f1 ≠ y.f1 → x = y:=fun h=>(site_apart h).elim (fun h=>absurd h h1) (fun h=>absurd h h2)
  rcases List.mem_append.1 hx with a | a <;> rcases List.mem_append.1 hy with b | b
  ·exact key s0 a b
  ·exact far (by rw [(v0 x a).2,(v1 y b).2];decide)
  ·exact far (by rw [(v1 x a).2,(v0 y b).2];decide)
  ·exact key s1 a b
 have g0:Good (l0 ++ l1) l0:=⟨fun z hz=>List.mem_append_left _ hz,s0⟩
 have g1:Good (l0 ++ l1) l1:=⟨fun z hz=>List.mem_append_right _ hz,s1⟩
 have hj:=join_ev hO hV g0 g1 (by omega)
 have gm:=Good.merge hO g0 g1
 have hml:=mergeS_len l0 l1
 have hv:∀ o ∈ mergeS l0 l1,OpV o:=fun o ho=>hV o (gm.sub o ho)
 obtain ⟨k,b,h1,h2,h3,h4,h5⟩:=drawn_ev hv (by omega)
 have hi:=items_ev gm.st hv (by omega) h5
 have hol:=order_length h2
 have hlen:((orderL b).map (fillF b)).length = (orderL b).length:=List.length_map _
 have hwf:((orderL b).map (fillF b)).all wfIt = true:=by
  rw [List.all_eq_true]
  intro x hx
  obtain ⟨y,hy,rfl⟩:=List.mem_map.1 hx
  have hyi:=(order_mem h2 y).1 hy
  have a1:=play_keys (fun i=>(Lit.int .i64 i).wf = true) k _ _ b h1 (fun o ho=>(hv o ho).ok.1) (fun x hx=>by cases hx) y hyi
  have a2:=play_pars (fun i=>(Lit.int .i64 i).wf = true) k _ _ b h1 (fun o ho=>(hv o ho).ok.2) (fun x hx=>by cases hx) y hyi
  show ((Lit.int .i64 y.f0).wf && (Lit.int .i64 y.f1).wf) = true
  rw [a1,a2]
  rfl
 have hsl:(shownL b).length ≤ b.its.length:=tree_len h2 _ _
 obtain ⟨K1,f1⟩:=ev_at2 draws_ev hj
 obtain ⟨K2,f2⟩:=hi
 refine ⟨K1 + K2,l0,l1,mergeS l0 l1,(orderL b).map (fillF b),(shownL b).length,⟨(f1 _ (by omega)).1,e0,e1,(f1 _ (by omega)).2,f2 _ (by omega),?_,by omega,by omega,fun i hi'=>?_,fun i hi' j hj'=>?_⟩⟩
 ·unfold replica_Shown.f
  rw [if_pos (by rw [hwf,Bool.true_and];exact decide_eq_true (by omega)),shownN_map,shown_len h2]
 ·have hi'':i < (orderL b).length:=by omega
  have e1:(((orderL b).map (fillF b))[i]'hi').f1 = ((orderL b)[i]'hi'').f1:=by rw [List.getElem_map];rfl
  rw [e1,climbF_map,hlen]
  show ∃ st,climbF (orderL b) i (shownL b).length ((orderL b).length + 2) ((orderL b)[i]'hi'').f1 0 = some st ∧ st ≤ (orderL b).length
  have hxi:=(order_mem h2 _).1 (List.getElem_mem hi'')
  obtain ⟨m,hm⟩:=h2.dp ((orderL b)[i]'hi'').f1
  have hd:=(Dp.up (h2.pos _ hxi) (h2.it_of hxi) hm).le h2
  obtain ⟨st,h6,h7⟩:=climb_some h2 i m _ 0 ((orderL b).length + 2) hm (by omega) (by omega) (fun hs=>by
   obtain ⟨_,h8⟩:=order_get hs
   rw [h8]
   rcases PBF.get (shownL b) [0] (tree_pbf b _ 0 [0] (by simp)) i hs with h9 | ⟨j,hj',h9⟩
   ·left
    have:((shownL b)[i]).f1 = 0:=by simpa using h9
    omega
   ·exact .inr ⟨j,hj',by omega,h9⟩)
  exact ⟨st,h6,by omega⟩
 ·have hi'':i < (orderL b).length:=by omega
  have:=pair_ok h2 hi'' hj'
  rw [List.getElem_map,List.getElem_map]
  exact this
theorem tree_walk (a0 a1:Option Addr) (len0 cap0 len1 cap1:Nat) (z0 z1:List Int) (w:World)
 (w0:(a0 = none ∧ len0 = 0 ∧ cap0 = 0 ∧ z0 = []) ∨ ∃ x,a0 = some x ∧ len0 ≤ cap0 ∧ cap0 ≤ maxLen ∧ z0.length = cap0 ∧ (∀ i,i < z0.length → w.cell? (x.add i) = some (.int .i64 (z0.getD i 0))) ∧ ∀ n ∈ z0,(Lit.int .i64 n).wf = true)
 (w1:(a1 = none ∧ len1 = 0 ∧ cap1 = 0 ∧ z1 = []) ∨ ∃ x,a1 = some x ∧ len1 ≤ cap1 ∧ cap1 ≤ maxLen ∧ z1.length = cap1 ∧ (∀ i,i < z1.length → w.cell? (x.add i) = some (.int .i64 (z1.getD i 0))) ∧ ∀ n ∈ z1,(Lit.int .i64 n).wf = true) :
 Calls Try.prog 10 #[.slice a0 len0 cap0,.slice a1 len1 cap1] w fun e w'=>e = .returned (.bool true) ∧ Below w.heap.size w w':=by
 obtain ⟨l0,rfl,hr0,hm0,hw0,hc0⟩:=ReadsInt.ofRowC w0
 obtain ⟨l1,rfl,hr1,hm1,hw1,hc1⟩:=ReadsInt.ofRowC w1
 obtain ⟨k,_,_,_,_,_,h⟩:=tree_law l0 l1
 exact tree_calls k _ _ l0 _ _ l1 w (Kd.C_of_reads (d:=(0:Int)) (h1:=fun _=>rfl) hr0) hc0 (Kd.C_of_reads (d:=(0:Int)) (h1:=fun _=>rfl) hr1) hc1 h
end Go.Proofs.Ytlcodfjlbhjkbaa.PDelta
end

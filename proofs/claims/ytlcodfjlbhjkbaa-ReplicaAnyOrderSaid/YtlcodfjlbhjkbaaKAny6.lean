/- Parts of the proof of Any: nothing is claimed here by itself. -/
import Derived.Test.YtlcodfjlbhjkbaaKAny5
import Derived.StillTailTactics
import Derived.Laws.EntriesVeiled
set_option linter.unusedVariables false
set_option linter.unusedSimpArgs false
section
namespace Go.Proofs.Ytlcodfjlbhjkbaa.PDelta
open Go.RowKit Go.Maps Go.Sort Go.Proofs.YtlcodfjlbhjkbaaW.PrintWords Go.Proofs.YtlcodfjlbhjkbaaW.PrintLast Go.Proofs.YtlcodfjlbhjkbaaW.PrintMore
section
variable {lo base B Bi Ba n Kb K r nk:Nat} {gi ga:Int → Option Value} {b:Brd} {left:Int → Bool} {cnt:Nat} {gm:Int → Option Value} {w w':World} {sl:Int → Option Addr × Nat × Nat} {va:Value} {DK DA:List S87}
abbrev fillW (w:World):World:=(w.alloc (.map #[] 0)).alloc (.cells #[.map (some w.heap.size)] 179)
theorem fillW_below (w:World):Below w.heap.size w (fillW w):=below_alloc (below_alloc (Below.refl _ _) _) _
theorem FillB.start (h:BoardIs w lo B Bi Ba n gi ga b) (hl:lo ≤ w.heap.size) {w3:World} (hr:RangeV w3 Bi (w.heap.size + 2) n gi (fun i=>(gi i).isSome) cnt) (hg:(fillW w).grownBy w3 none) :
 FillB lo w.heap.size B Bi Ba n (w.heap.size + 1) w.heap.size (w.heap.size + 2) 0 gi ga b (fun i=>(gi i).isSome) cnt (fun _=>none) w3:=by
 have hb1:=fillW_below w
 have hs:(fillW w).heap.size = w.heap.size + 2:=by simp [fillW]
 have hb2:∀ k,k < w.heap.size + 2 → w3.heap[k]? = (fillW w).heap[k]?:=fun k hk=>hg.block k (by rw [hs];exact hk) (by simp)
 have hb3:∀ k,k < w.heap.size → w3.heap[k]? = w.heap[k]?:=fun k hk=>(hb2 k (by omega)).trans (hb1.block k hk)
 have hkm:(fillW w).heap[w.heap.size]? = (w.alloc (.map #[] 0)).heap[w.heap.size]?:=(below_alloc (Below.refl _ (w.alloc (.map #[] 0))) _).block _ (by simp)
 refine ⟨(hb3 _ (blk_lt h.blk)).trans h.blk,hr,h.ma.block (hb3 _ h.ma.lt),fun e=>by have:=h.mi.lt;omega,fun e=>by have:=h.ma.lt;omega,fun i=>⟨(h.it i).1,fun v x hv hx=>?_⟩,fun i=>?_,?_,?_,Nat.le_refl _⟩
 ·obtain ⟨hw,p,u,e,h1,h2,h3⟩:=(h.it i).2 v x hv hx
  exact ⟨hw,p,u,e,h1,blk_lt h2,(hb3 p (blk_lt h2)).trans h2⟩
 ·exact AtV.move (h.atD i) (fun k cells hc=>hb3 k (blk_lt hc))
 ·rw [hb2 _ (by omega)]
  have:=blk_new (w.alloc (.map #[] 0)) (.cells #[.map (some w.heap.size)] 179)
  simpa using this
 ·exact (MapV.made w).block ((hb2 _ (by omega)).trans hkm)
theorem FillR.start (base:Nat) (sl:Int → Option Addr × Nat × Nat) (w:World):FillR base sl (fun _=>none) w (.slice none 0 0) [] [] :=
 ⟨fun p=>RowIs.nil _ _,(fun p q k _ e=>by cases e),RowIs.nil _ _,(fun p k e=>by cases e)⟩
theorem left_step {D its:List S87} {left:Int → Bool} {x:S87} (hD:D.Perm (its.filter (fun y=>!left y.f0))) (hnd:its.Pairwise (fun x y=>x.f0 ≠ y.f0)) (hx:x ∈ its) (hl:left x.f0 = true):(D ++ [x]).Perm (its.filter (fun y=>!(left y.f0 && !decide (y.f0 = x.f0)))):=by
 refine (hD.append_right [x]).trans ?_
 clear hD
 induction its with
 | nil=>cases hx
 | cons y l ih =>
  rw [List.pairwise_cons] at hnd
  rcases List.mem_cons.1 hx with rfl | hx
  ·have h1:l.filter (fun y=>!(left y.f0 && !decide (y.f0 = x.f0))) = l.filter (fun y=>!left y.f0):=List.filter_congr fun y hy=>by
    have:=hnd.1 y hy
    rw [decide_eq_false (Ne.symm this)]
    simp
   rw [List.filter_cons,List.filter_cons,h1]
   simp only [hl,decide_true,Bool.not_true,Bool.and_false,Bool.not_false,if_true,Bool.false_eq_true,if_false]
   exact List.perm_append_comm.trans (by simp)
  ·have h2:=ih hnd.2 hx
   have h3:decide (y.f0 = x.f0) = false:=decide_eq_false (hnd.1 x hx)
   rw [List.filter_cons,List.filter_cons,h3]
   cases left y.f0 with
   | true=>simpa using h2
   | false=>simpa using h2.cons y
theorem left_done {D its:List S87} {left:Int → Bool} (hD:D.Perm (its.filter (fun y=>!left y.f0))) (hl:∀ i,left i = false):D.Perm its:=by
 have:its.filter (fun y=>!left y.f0) = its:=List.filter_eq_self.2 fun y _=>by rw [hl];rfl
 rwa [this] at hD
abbrev walkW (w:World) (Kb:Nat):World:=(((w.alloc (.cells #[.slice none 0 0] 70)).alloc (.map #[] 0)).alloc (.cells #[.map (some (w.heap.size + 1))] 133)).alloc (.cells #[.func (.func 108) #[] #[.pointer (some ⟨Kb,0,none⟩),.pointer (some ⟨w.heap.size,0,none⟩),.pointer (some ⟨w.heap.size + 1 + 1,0,none⟩),.pointer (some ⟨w.heap.size + 1 + 1 + 1,0,none⟩)]] 174)
theorem walkW_below (w:World) (Kb:Nat):Below w.heap.size w (walkW w Kb):=below_alloc (below_alloc (below_alloc (below_alloc (Below.refl _ _) _) _) _) _
theorem WalkS.start (h:FillB lo base B Bi Ba n Kb K r nk gi ga b left cnt gm w) (hr:FillR base sl gm w va DK DA) (hD:DK.Perm b.its) (hb:base ≤ w.heap.size) :
 WalkS base K Kb w.heap.size (w.heap.size + 1 + 1) (w.heap.size + 1 + 1 + 1) (w.heap.size + 1) nk gm sl b va DA (fun _=>False) (walkW w Kb) (.slice none 0 0) [] (fun _=>none):=by
 have hbw:=walkW_below w Kb
 have h0:=blk_new w (.cells #[.slice none 0 0] 70)
 have h1:=MapV.made (w.alloc (.cells #[.slice none 0 0] 70))
 have e1:(w.alloc (.cells #[.slice none 0 0] 70)).heap.size = w.heap.size + 1:=by simp
 have h2:=blk_new ((w.alloc (.cells #[.slice none 0 0] 70)).alloc (.map #[] 0)) (.cells #[.map (some (w.heap.size + 1))] 133)
 have e2:((w.alloc (.cells #[.slice none 0 0] 70)).alloc (.map #[] 0)).heap.size = w.heap.size + 1 + 1:=by simp
 have h3:=blk_new (((w.alloc (.cells #[.slice none 0 0] 70)).alloc (.map #[] 0)).alloc (.cells #[.map (some (w.heap.size + 1))] 133)) (.cells #[.func (.func 108) #[] #[.pointer (some ⟨Kb,0,none⟩),.pointer (some ⟨w.heap.size,0,none⟩),.pointer (some ⟨w.heap.size + 1 + 1,0,none⟩),.pointer (some ⟨w.heap.size + 1 + 1 + 1,0,none⟩)]] 174)
 have e3:(((w.alloc (.cells #[.slice none 0 0] 70)).alloc (.map #[] 0)).alloc (.cells #[.map (some (w.heap.size + 1))] 133)).heap.size = w.heap.size + 1 + 1 + 1:=by simp
 rw [e1] at h1
 rw [e2] at h2
 rw [e3] at h3
 refine ⟨(hbw.block _ (blk_lt h.kb)).trans h.kb,blk_alloc (blk_alloc (blk_alloc h0 _) _) _,blk_alloc h2 _,h3,hb,by omega,fun e=>by have:=h.mK.lt;omega,h.mK.block (hbw.block _ h.mK.lt),?_,fun i=>rfl,fun p=>⟨_,hD.filter _,fun hp=>hp.elim,?_⟩,hr.kap,RowIs.nil _ _,(fun p k _ e=>by cases e),?_,hr.aap,(fun k e=>by cases e)⟩
 ·refine h1.block (((below_alloc (Below.refl _ _) _).block _ (by rw [e3];omega)).trans ((below_alloc (Below.refl _ _) _).block _ (by rw [e2];omega)))
 ·exact (hr.kids p).keep (fun k hk=>hbw.block k ((hr.kids p).cells hk).2.1)
 ·exact hr.ra.keep (fun k hk=>hbw.block k (hr.ra.cells hk).2.1)
structure RestS (base Ob Sb Sm m:Nat) (gs:Int → Option Value) (sl:Int → Option Addr × Nat × Nat) (va:Value) (L:List S87) (w:World) (vo:Value) (out:List S87):Prop where
 ob:w.heap[Ob]? = some (.cells #[vo] 70 (0,0))
 sb:w.heap[Sb]? = some (.cells #[.map (some Sm)] 133 (0,0))
 lO:base ≤ Ob
 ms:MapV w Sm m gs
 ra:RowIs w base va (L.map (mk4 sl))
 ro:RowIs w base vo (out.map (mk4 sl))
 voa:∀ k,vo.ownBlock = some k → va.ownBlock ≠ some k
theorem WalkS.rest {Ob Sb Wb Sm:Nat} {D L:List S87} {done:Int → Prop} {vo:Value} {out:List S87} {gs:Int → Option Value} (h:WalkS base K Kb Ob Sb Wb Sm nk gm sl b va D done w vo out gs) (hg:w.grownBy w' va.ownBlock) (hr:RowIs w' base va (L.map (mk4 sl))):RestS base Ob Sb Sm out.length gs sl va L w' vo out:=by
 have hcell:∀ {g:Nat} {cur:Array Value} {t:TypeId},w.heap[g]? = some (.cells cur t (0,0)) → t ≠ 87 → w'.heap[g]? = some (.cells cur t (0,0)):=fun hb ht=>(hg.block _ (blk_lt hb) (fun e=>h.ra.ne hb (not87 ht) e.symm)).trans hb
 obtain ⟨_,_,m2⟩:=h.ms.map
 refine ⟨hcell h.ob (by decide),hcell h.sb (by decide),h.lO,h.ms.block (hg.block _ (by obtain ⟨h,_⟩:=Array.getElem?_eq_some_iff.1 m2;exact h) (fun e=>h.ra.ne m2 mapnot87 e.symm)),hr,h.ro.keep (fun k e=>hg.block k (h.ro.cells e).2.1 (fun e'=>h.voa k e e'.symm)),h.voa⟩
section
variable {Ob Sb Sm m:Nat} {gs:Int → Option Value} {L:List S87} {vo:Value} {out:List S87}
theorem RestS.below (h:RestS base Ob Sb Sm m gs sl va L w vo out) (hb:Below w.heap.size w w'):RestS base Ob Sb Sm m gs sl va L w' vo out :=
 ⟨(hb.block _ (blk_lt h.ob)).trans h.ob,(hb.block _ (blk_lt h.sb)).trans h.sb,h.lO,h.ms.block (hb.block _ h.ms.lt),h.ra.keep (fun k e=>hb.block k (h.ra.cells e).2.1),h.ro.keep (fun k e=>hb.block k (h.ro.cells e).2.1),h.voa⟩
theorem RestS.append (h:RestS base Ob Sb Sm m gs sl va L w vo out) {x:S87} {vn:Value} (hr:RowIs w' base vn ((out ++ [x]).map (mk4 sl))) (hg:w.grownBy w' vo.ownBlock) (hat:vn.ownBlock = vo.ownBlock ∨ ∃ k,vn.ownBlock = some k ∧ w.heap.size ≤ k) :
 w'.heap[Ob]? = some (.cells #[vo] 70 (0,0)) ∧ RestS base Ob Sb Sm m gs sl va L (w'.setCell ⟨Ob,0,none⟩ vn) vn (out ++ [x]):=by
 have hcell:∀ {g:Nat} {cur:Array Value} {t:TypeId},w.heap[g]? = some (.cells cur t (0,0)) → t ≠ 87 → w'.heap[g]? = some (.cells cur t (0,0)):=fun hb ht=>(hg.block _ (blk_lt hb) (fun e=>h.ro.ne hb (not87 ht) e.symm)).trans hb
 obtain ⟨_,_,m2⟩:=h.ms.map
 have hob:=hcell h.ob (by decide)
 have hsb:=hcell h.sb (by decide)
 have hm:w'.heap[Sm]? = w.heap[Sm]?:=hg.block _ (by obtain ⟨h,_⟩:=Array.getElem?_eq_some_iff.1 m2;exact h) (fun e=>h.ro.ne m2 mapnot87 e.symm)
 have hra:RowIs w' base va (L.map (mk4 sl)):=h.ra.keep (fun k e=>hg.block k (h.ra.cells e).2.1 (fun e'=>h.voa k e'.symm e))
 have hfar:∀ {g:Nat},g ≠ Ob → (w'.setCell ⟨Ob,0,none⟩ vn).heap[g]? = w'.heap[g]?:=fun hg=>Below.heap_setCell w' ⟨Ob,0,none⟩ vn _ hg
 have hrow:∀ {v:Value} {xs:List It4},RowIs w' base v xs → RowIs (w'.setCell ⟨Ob,0,none⟩ vn) base v xs:=fun hv=>hv.keep (fun k e=>hfar (fun e'=>hv.ne hob (not87 (by decide)) (by rw [e,e'])))
 refine ⟨hob,?_,(hfar (fun e=>by subst e;rw [hob] at hsb;injection hsb with hsb;injection hsb with _ hsb;exact absurd hsb (by decide))).trans hsb,h.lO,h.ms.block ((hfar (fun e=>by subst e;rw [← hm,hob] at m2;cases m2)).trans hm),hrow hra,hrow hr,fun k e e'=>?_⟩
 ·have:=blk_set hob 0 vn
  simpa using this
 ·rcases hat with hat | ⟨k',hat,hs⟩
  ·rw [hat] at e
   exact h.voa k e e'
  ·rw [hat] at e
   cases e
   exact absurd (h.ra.cells e').2.1 (by omega)
end
theorem sorted_all {b:Brd} (hB:BOK b) (sl:Int → Option Addr × Nat × Nat) {D:List S87} {L1:List It4} (h0:D.Perm b.its) (h1:L1.Perm (D.map (mk4 sl))) (hs:L1.Pairwise (fun x y=>ltOf cmpN y x = false)):L1 = (sortB ltN b.its).map (mk4 sl):=by
 have hm:=(h0.trans (sortB_perm ltN b.its).symm).map (mk4 sl)
 refine sorted_one (lt:=ltOf cmpN) (h1.trans hm) hs ?_ ?_
 ·rw [List.pairwise_map]
  exact sortB_sorted ltN ltN_nt ltN_as b.its
 ·intro x hx y hy e1 e2
  obtain ⟨x',hx',rfl⟩:=List.mem_map.1 hx
  obtain ⟨y',hy',rfl⟩:=List.mem_map.1 hy
  have h3:x'.f0 = y'.f0:=by
   have h1:=of_decide_eq_false ((cmpI_lt x'.f0 y'.f0).symm.trans e1)
   have h2:=of_decide_eq_false ((cmpI_lt y'.f0 x'.f0).symm.trans e2)
   omega
  have h4:=hB.it_of ((sortB_perm ltN b.its).mem_iff.1 hx')
  rw [h3,hB.it_of ((sortB_perm ltN b.its).mem_iff.1 hy')] at h4
  cases h4
  rfl
theorem rows_R {L:List S87} {vo:Value} (hlo:lo ≤ base) (h:RowIs w base vo (L.map (mk4 (slOf ga)))) (ha:∀ i,AtV w lo ((ga i).getD (.slice none 0 0)) (b.atD i)):Kd.R k87 87 w lo (fun k=>lo ≤ k) vo (L.map (fillF b)):=by
 refine ⟨fun k hk=>own_base (own_weaken h hlo) k hk,(L.map (mk4 (slOf ga))).flatMap enc4,?_,?_,fun j y hy=>?_⟩
 ·rw [List.length_map]
  have:=own_weaken h hlo
  rwa [List.length_map] at this
 ·rw [flat_len,List.length_map,List.length_map]
  rfl
 ·rw [List.getElem?_map] at hy
  obtain ⟨x,hx,rfl⟩:=Option.map_eq_some_iff.1 hy
  have hj:j < L.length:=(List.getElem?_eq_some_iff.1 hx).1
  have hsz:k87.sz = 4:=rfl
  rw [hsz]
  obtain ⟨A,c,hv,_⟩:=(ha x.f0).reads
  have e1:(((L.map (mk4 (slOf ga))).flatMap enc4).drop (j * 4)).take 4 = [.int .i64 x.f0,.int .i64 x.f1,.string x.f2,.slice A (b.atD x.f0).length c]:=by
   have hs:slOf ga x.f0 = (A,(b.atD x.f0).length,c):=by unfold slOf;rw [hv]
   have hf:∀ t,t < 4 → ((L.map (mk4 (slOf ga))).flatMap enc4)[j * 4 + t]? = some ((enc4 (mk4 (slOf ga) x))[t]!):=fun t ht=>by
    rw [flat_get _ _ (by rw [List.length_map];omega)]
    have e1:(j * 4 + t) / 4 = j:=by omega
    have e2:(j * 4 + t) % 4 = t:=by omega
    rw [e1,e2,getElem!_pos _ j (by rw [List.length_map];exact hj),List.getElem_map]
    have:L[j] = x:=by rw [List.getElem?_eq_getElem hj] at hx;exact Option.some.inj hx
    rw [this]
   have he:enc4 (mk4 (slOf ga) x) = [.int .i64 x.f0,.int .i64 x.f1,.string x.f2,.slice A (b.atD x.f0).length c]:=by unfold enc4 mk4;rw [hs]
   rw [← he]
   apply List.ext_getElem?
   intro t
   by_cases ht:t < 4
   ·rw [List.getElem?_take_of_lt ht,List.getElem?_drop,hf t ht]
    rw [getElem!_pos _ t (by rw [enc4_len];exact ht),List.getElem?_eq_getElem (by rw [enc4_len];exact ht)]
   ·rw [List.getElem?_eq_none (by rw [List.length_take];omega),List.getElem?_eq_none (by rw [enc4_len];omega)]
  rw [e1]
  have hR:=ha x.f0
  rw [hv] at hR
  refine k87_mkM w lo _ (fillF b x) (show k91.R 91 w lo _ _ (b.atD x.f0) from ⟨fun k hk=>⟨?_,fun e=>?_⟩,?_⟩)
  ·obtain ⟨_,inner,ho,_⟩:=hR
   exact own_base ho k hk
  ·obtain ⟨_,inner,ho,_⟩:=hR
   obtain ⟨c1,h1⟩:=own_typed ho k hk
   obtain ⟨_,_,c2,h2⟩:=h.cells e.symm
   rw [h1] at h2
   injection h2 with h2
   injection h2 with _ h2
   exact absurd h2 (by decide)
  ·obtain ⟨_,inner,ho,hr⟩:=hR
   exact ⟨inner,ho,hr.1,fun t p hp=>by
    have:=k91_openM (hr.2 t p hp)
    rw [this]
    exact k91_mkM _ _ _ _⟩
end
theorem zero4 (w:World):(zeroValue 4).run Try.prog w = .ok (.bool false) w:=by kernel_rfl
theorem MapV.run {w:World} {b n:Nat} {g:Int → Option Value} (h:MapV w b n g) {t e:TypeId} (ht:Try.prog.underlying t = some (.map 3 e)) {z:Value} (hz:(zeroValue e).run Try.prog w = .ok z w) (i:Int) (hw:(Lit.int .i64 i).wf = true) {v:Value} (hv:(g i).getD z = v) :
 (Instr.lookup t (.map (some b)) (.int .i64 i) false).run Try.prog w = .ok v w:=by rw [h.look ht hz i hw,hv]
def RawE (lo:Nat) (w:World) (b:Brd) (e:Ending) (w':World):Prop:=∃ v0,e = .returned v0 ∧ Kd.R k87 87 w' lo (fun k=>lo ≤ k) v0 ((orderL b).map (fillF b)) ∧ Below lo w w'
set_option maxRecDepth 100000 in
set_option maxHeartbeats 8000000 in
theorem raw_calls (k:Nat) (A0:Option Addr) (c0:Nat) (l:List S128) (w:World) (hr0:Kd.C k128 w A0 l.length l) (hc0:l.length ≤ c0) (hok:∀ o ∈ l,OpOK o) (b:Brd) (h:playF k l ⟨[],[]⟩ = some b) (hB:BOK b) (hlen:b.its.length ≤ 1073741824) (hWf:∀ x ∈ b.its,(Lit.int .i64 x.f0).wf = true) :
 Calls Try.prog 74 #[.slice A0 l.length c0] w (RawE w.heap.size w b):=by
 have hmm:=@run_makeMap Try.prog
 have HPL:Aside0 (Calls Try.prog 76 #[.slice A0 l.length c0] w fun e w'=>∃ B Bi Ba n gi ga,e = .returned (.pointer (some ⟨B,0,none⟩)) ∧ BoardIs w' w.heap.size B Bi Ba n gi ga b ∧ Below w.heap.size w w'):=⟨play_calls k A0 c0 l w hr0 hc0 hok b h⟩
 have HBK:=Aside0.mk hB
 have HLN:=Aside0.mk hlen
 have HWF:=Aside0.mk hWf
 clear hr0 hc0 hok h hB hlen hWf
 go_enter Try.func74,Try.ntmps74
 go_upto_region 4 with (go_at_call 76;(with_reducible refine HPL.out.mono ?_);rintro e1 w1 ⟨B,Bi,Ba,n,gi,ga,rfl,hbd,hbel⟩;have HBD:=Aside0.mk hbd;have HBL:=Aside0.mk hbel;clear hbd hbel)
 obtain ⟨w2,hw2⟩:∃ W,W = fillW w1:=⟨_,rfl⟩
 obtain ⟨base,hbase⟩:∃ m,m = w1.heap.size:=⟨_,rfl⟩
 have HLO:Aside0 (w.heap.size ≤ base):=⟨by rw [hbase];exact HBL.out.size⟩
 have HS2:Aside0 (w2.heap.size = base + 2):=⟨by rw [hw2,hbase];simp [fillW]⟩
 have HBD2:Aside0 (BoardIs w2 w.heap.size B Bi Ba n gi ga b):=⟨by rw [hw2];exact HBD.out.below (fillW_below w1)⟩
 have HST:Aside0 (∀ w3 cnt,RangeV w3 Bi (base + 2) n gi (fun i=>(gi i).isSome) cnt → w2.grownBy w3 none → FillB w.heap.size base B Bi Ba n (base + 1) base (base + 2) 0 gi ga b (fun i=>(gi i).isSome) cnt (fun _=>none) w3):=⟨fun w3 cnt h1 h2=>by
  rw [hbase] at h1 ⊢
  rw [hw2] at h2
  exact FillB.start HBD.out HBL.out.size h1 h2⟩
 have HB2:Aside0 (Below w.heap.size w w2):=⟨by rw [hw2];exact below_then HBL.out HBL.out.size (fillW_below w1)⟩
 have cB0:w2.cell? ⟨B,0,none⟩ = some (.map (some Bi)):=(blk_cell HBD2.out.blk 0).trans rfl
 have e_:fillW w1 = (w1.alloc (.map #[] 0)).alloc (.cells #[.map (some base)] 179):=by rw [hbase]
 rw [← hbase,← e_,← hw2]
 clear hw2 hbase HBD HBL e_ hmm HPL
 go_wp2_with (at_range;refine wp_range _ rfl _ 141 139 rfl Try.underlying141 Bi n gi rfl HBD2.out.mi ?_;intro w3 cnt hrg hg3 hs3;rw [HS2.out] at hrg ⊢;have HFB0:=Aside0.mk (HST.out w3 cnt hrg hg3);have HB3:=Aside0.mk (HB2.out.grown hg3 (Nat.le_trans HLO.out (by rw [HS2.out];omega)) (fun k hk=>by cases hk));have HB3s:Aside0 (base ≤ w3.heap.size):=⟨by have h1:=HS2.out;omega⟩;clear hrg hg3 hs3)
 clear cB0
 go_frame
 go_loopg [5] cnt (fun m v5 wr=>∃ (va:Value) (left:Int → Bool) (cn:Nat) (D:List S87) (gm:Int → Option Value),va = v5 ∧ Aside0 (cn ≤ m) ∧ Aside0 (D.Perm (b.its.filter (fun y=>!left y.f0))) ∧ Aside0 (FillB w.heap.size base B Bi Ba n (base + 1) base (base + 2) D.length gi ga b left cn gm wr) ∧ Aside0 (FillR base (slOf ga) gm wr va D D) ∧ Aside0 (Below w.heap.size w wr) ∧ Aside0 (base ≤ wr.heap.size))
 case atStart =>
  refine ⟨_,_,cnt,[],_,rfl,⟨Nat.le_refl _⟩,⟨?_⟩,HFB0,⟨FillR.start _ _ _⟩,HB3,HB3s⟩
  have:b.its.filter (fun y=>!(gi y.f0).isSome) = []:=List.filter_eq_nil_iff.2 fun y hy=>by
   rw [(HBD2.out.it y.f0).1,HBK.out.it_of hy]
   simp
  rw [this]
 case round =>
  obtain ⟨va,left,cn,D,gm,rfl,HC,HD,HFB,HFR,HB,HBS⟩:=hrel
  clear HB3 HB3s HFB0 HB2 HST HS2
  go_wp2_with (at_next;refine wp_next _ rfl _ rfl Bi (base + 2) n gi left cn rfl HFB.out.rg ?_ ?_)
  ·intro hl0
   have HDP:=Aside0.mk (left_done HD.out hl0)
   have hmm:=@run_makeMap Try.prog
   clear hl0 HC
   obtain ⟨nV,hnV⟩:∃ m,m = D.length:=⟨_,rfl⟩
   obtain ⟨AV,cV,eva,hcV⟩:=HFR.out.ra.slice
   rw [List.length_map,← hnV] at eva hcV
   subst eva
   have HNV:Aside0 (nV = D.length ∧ nV ≤ 1073741824 ∧ nV = (sortB ltN b.its).length ∧ D.Perm b.its):=⟨by
    have h1:=HDP.out.length_eq
    have h2:=(sortB_perm ltN b.its).length_eq
    have h3:=HLN.out
    exact ⟨hnV,by omega,by omega,HDP.out⟩⟩
   clear hnV hcV HDP HD
   go_upto_region 14 with (fail)
   obtain ⟨w5,hw5⟩:∃ W,W = walkW wr (base + 1):=⟨_,rfl⟩
   obtain ⟨m0,hm0⟩:∃ m,m = wr.heap.size:=⟨_,rfl⟩
   have HWS:Aside0 (WalkS base base (base + 1) m0 (m0 + 1 + 1) (m0 + 1 + 1 + 1) (m0 + 1) D.length gm (slOf ga) b (.slice AV nV cV) D (fun _=>False) w5 (.slice none 0 0) [] (fun _=>none)):=⟨by rw [hw5,hm0];exact WalkS.start HFB.out HFR.out HNV.out.2.2.2 HBS.out⟩
   have HB5:Aside0 (Below w.heap.size w w5):=⟨by rw [hw5];exact below_then HB.out (Nat.le_trans HLO.out HBS.out) (walkW_below _ _)⟩
   have HL5:Aside0 (w.heap.size ≤ w5.heap.size):=⟨HB5.out.size⟩
   have HAT5:Aside0 (∀ i,AtV w5 w.heap.size ((ga i).getD (.slice none 0 0)) (b.atD i)):=⟨by rw [hw5];exact (HFB.out.move (Kp.below (walkW_below _ _))).ats⟩
   have HVT:Aside0 (visitF (b.its.length + 1) b 0 [] = some (shownL b)):=⟨by
    have h1:=tree_len HBK.out (b.its.length + 1) 0
    have h2:=HLN.out
    have:=visit_tree HBK.out (b.its.length + 1) 0 0 (.stop (Int.le_refl _)) (by omega) [] (by simp only [List.length_nil];omega)
    rw [this]
    rfl⟩
   have HM0:Aside0 (base ≤ m0):=⟨by rw [hm0];exact HBS.out⟩
   have e_:walkW wr (base + 1) = (((wr.alloc (.cells #[.slice none 0 0] 70)).alloc (.map #[] 0)).alloc (.cells #[.map (some (m0 + 1))] 133)).alloc (.cells #[.func (.func 108) #[] #[.pointer (some ⟨base + 1,0,none⟩),.pointer (some ⟨m0,0,none⟩),.pointer (some ⟨m0 + 1 + 1,0,none⟩),.pointer (some ⟨m0 + 1 + 1 + 1,0,none⟩)]] 174):=by rw [hm0]
   rw [← hm0,← e_,← hw5]
   have cwb:w5.cell? ⟨m0 + 1 + 1 + 1,0,none⟩ = some (.func (.func 108) #[] #[.pointer (some ⟨base + 1,0,none⟩),.pointer (some ⟨m0,0,none⟩),.pointer (some ⟨m0 + 1 + 1,0,none⟩),.pointer (some ⟨m0 + 1 + 1 + 1,0,none⟩)]):=(blk_cell HWS.out.wb 0).trans rfl
   clear hw5 hm0 e_ hmm HFB HFR HB HBS
   go_upto_region 15 with (go_at_call 108;(with_reducible refine (walk_calls HLO.out HBK.out HWF.out (b.its.length + 1) 0 [] (shownL b) w5 _ _ _ (by decide) HL5.out HLN.out HWS.out HVT.out).mono ?_);rintro e6 w6 ⟨rfl,done6,vo6,gs6,hd6,hW6,hF6⟩;have HW6:=Aside0.mk hW6;have HF6:=Aside0.mk hF6;clear hd6 hW6 hF6)
   have HAT6:Aside0 (∀ i,AtV w6 w.heap.size ((ga i).getD (.slice none 0 0)) (b.atD i)):=⟨fun i=>AtV.move (HAT5.out i) HF6.out.at91⟩
   have HB6:=Aside0.mk (HB5.out.trans HF6.out.bel)
   have HS6:Aside0 (base ≤ w6.heap.size):=⟨by have h1:=blk_lt HW6.out.ob;have h2:=HM0.out;omega⟩
   have HGS:=Aside0.mk HW6.out.gsE
   have HSRT:Aside0 (Calls Try.prog 109 #[.slice AV nV cV,.func (.func 114) #[] #[]] w6 fun e w'=>e = .returned (.tuple #[]) ∧ RestS base m0 (m0 + 1 + 1) (m0 + 1) (shownL b).length gs6 (slOf ga) (.slice AV nV cV) (sortB ltN b.its) w' vo6 (shownL b) ∧ (∀ i,AtV w' w.heap.size ((ga i).getD (.slice none 0 0)) (b.atD i)) ∧ Below w.heap.size w w' ∧ base ≤ w'.heap.size):=by
    refine ⟨(sort_calls 114 cmpN swoN (enters_of Try.func114 (by kernel_rfl) rfl) cmpn_calls _ base _ w6 HW6.out.ra (by rw [List.length_map];have:=HNV.out;omega)).mono ?_⟩
    rintro e w' ⟨rfl,L1,h1,h2,h3,h4⟩
    obtain rfl:=sorted_all HBK.out (slOf ga) HNV.out.2.2.2 h1 h2
    have hkp:=Kp.of HW6.out.ra h4
    refine ⟨rfl,HW6.out.rest h4 h3,fun i=>AtV.move (HAT6.out i) (fun k cells hc=>(hkp k _ hc (fun _ e=>by injection e with _ e;exact absurd e (by decide))).trans hc.symm),HB6.out.grown h4 (Nat.le_trans HLO.out HS6.out) (fun k hk=>Nat.le_trans HLO.out (HW6.out.ra.cells hk).1),Nat.le_trans HS6.out h4.size⟩
   obtain ⟨S0,hS0⟩:∃ L,L = shownL b:=⟨_,rfl⟩
   obtain ⟨L0,hL0⟩:∃ L,L = sortB ltN b.its:=⟨_,rfl⟩
   have HOE:Aside0 (orderL b = S0 ++ L0.filter (fun x=>!isIn S0 x.f0)):=⟨by rw [hS0,hL0];rfl⟩
   have HWL:Aside0 (∀ x ∈ L0,(Lit.int .i64 x.f0).wf = true):=⟨fun x hx=>HWF.out x ((sortB_perm ltN b.its).mem_iff.1 (hL0 ▸ hx))⟩
   have HNL:Aside0 (nV = L0.length ∧ nV ≤ 1073741824 ∧ S0.length ≤ 1073741824):=⟨by have h1:=HNV.out;rw [hL0,hS0];have h2:=tree_len HBK.out (b.its.length + 1) 0;have h3:=HLN.out;exact ⟨h1.2.2.1,h1.2.1,Nat.le_trans h2 h3⟩⟩
   rw [← hS0,← hL0] at HSRT
   rw [← hS0] at HGS
   clear cwb hS0 hL0 HWS HB5 HL5 HAT5 HVT HW6 HF6 HAT6 HB6 HS6 HNV
   go_wp2_with (go_at_call 109;(with_reducible refine HSRT.out.mono ?_);rintro e7 w7 ⟨rfl,hR7,hA7,hB7,hS7⟩;have HR7:=Aside0.mk hR7;have HA7:=Aside0.mk hA7;have HB7:=Aside0.mk hB7;have HS7:=Aside0.mk hS7;clear hR7 hA7 hB7 hS7)
   clear HSRT
   go_loopg [65] nV (fun m v65 wx=>∃ (j:Nat) (vo:Value),v65 = .int .i64 (j:Int) ∧ Aside0 (m + j = nV) ∧ Aside0 (RestS base m0 (m0 + 1 + 1) (m0 + 1) S0.length gs6 (slOf ga) (.slice AV nV cV) L0 wx vo (S0 ++ (L0.take j).filter (fun x=>!isIn S0 x.f0))) ∧ Aside0 (∀ i,AtV wx w.heap.size ((ga i).getD (.slice none 0 0)) (b.atD i)) ∧ Aside0 (Below w.heap.size w wx) ∧ Aside0 (base ≤ wx.heap.size))
   case atStart=>exact ⟨0,vo6,rfl,⟨rfl⟩,⟨by simpa using HR7.out⟩,HA7,HB7,HS7⟩
   case round =>
    obtain ⟨j,vo,rfl,HJ,HR,HA,HB,HS⟩:=hrel
    clear HR7 HA7 HB7 HS7
    have cob:wr.cell? ⟨m0,0,none⟩ = some vo:=(blk_cell HR.out.ob 0).trans rfl
    by_cases d1:j < nV
    rotate_left
    ·have g1:decide ((j:Int) < (nV:Int)) = false:=decide_eq_false (by omega)
     have g1':decide (j < nV) = false:=decide_eq_false d1
     have HX:Aside0 (RestS base m0 (m0 + 1 + 1) (m0 + 1) S0.length gs6 (slOf ga) (.slice AV nV cV) L0 wr vo (orderL b)):=⟨by
      have h1:=HR.out
      rw [List.take_of_length_le (by have:=HNL.out.1;omega)] at h1
      rw [HOE.out]
      exact h1⟩
     clear d1
     go_wp2
     go_ret
     exact ⟨vo,rfl,rows_R HLO.out HX.out.ro HA.out,HB.out⟩
    have g1:decide ((j:Int) < (nV:Int)) = true:=decide_eq_true (by omega)
    have g1':decide (j < nV) = true:=decide_eq_true d1
    have q1:(j:Int) < (nV:Int):=by omega
    obtain ⟨gl,rfl⟩:∃ gl,gk = gl + 1:=⟨gk - 1,by have:=HJ.out;omega⟩
    have hjl:j < L0.length:=by have:=HNL.out.1;omega
    obtain ⟨x,hx⟩:∃ x,x = L0[j]'hjl:=⟨_,rfl⟩
    have HXM:Aside0 ((Lit.int .i64 x.f0).wf = true):=⟨HWL.out x (hx ▸ List.getElem_mem hjl)⟩
    obtain ⟨ad,eA,x0,x1,x2,x3⟩:=HR.out.ra.at j (by rw [List.length_map];exact hjl)
    subst eA
    have hxe:(L0.map (mk4 (slOf ga)))[j]'(by rw [List.length_map];exact hjl) = mk4 (slOf ga) x:=by rw [List.getElem_map,← hx]
    rw [hxe] at x0 x1 x2 x3
    replace x0:wr.cell? (ad.add (j * 4)) = some (.int .i64 x.f0):=x0
    replace x1:wr.cell? ⟨(ad.add (j * 4)).block,(ad.add (j * 4)).off + 1,none⟩ = some (.int .i64 x.f1):=x1
    replace x2:wr.cell? ⟨(ad.add (j * 4)).block,(ad.add (j * 4)).off + 2,none⟩ = some (.string x.f2):=x2
    obtain ⟨SA,hSA⟩:∃ S,S = (mk4 (slOf ga) x).A:=⟨_,rfl⟩
    obtain ⟨Sn,hSn⟩:∃ S,S = (mk4 (slOf ga) x).n:=⟨_,rfl⟩
    obtain ⟨Sc,hSc⟩:∃ S,S = (mk4 (slOf ga) x).c:=⟨_,rfl⟩
    have HSL:Aside0 (mk4 (slOf ga) x = ⟨x.f0,x.f1,x.f2,SA,Sn,Sc⟩):=⟨by rw [hSA,hSn,hSc];rfl⟩
    rw [← hSA,← hSn,← hSc] at x3
    have HTK:Aside0 ((L0.take (j + 1)).filter (fun x=>!isIn S0 x.f0) = (L0.take j).filter (fun x=>!isIn S0 x.f0) ++ (if isIn S0 x.f0 = true then [] else [x])):=⟨by
     rw [List.take_succ_eq_append_getElem hjl,← hx,List.filter_append]
     congr 1
     rw [List.filter_cons,List.filter_nil]
     cases isIn S0 x.f0 <;> rfl⟩
    have HOL:Aside0 ((S0 ++ (L0.take j).filter (fun x=>!isIn S0 x.f0)).length ≤ 2147483648):=⟨by
     rw [List.length_append]
     have h1:=List.length_filter_le (fun x:S87=>!isIn S0 x.f0) (L0.take j)
     have h2:(L0.take j).length ≤ j:=List.length_take_le _ _
     have h3:=HNL.out
     omega⟩
    obtain ⟨out1,ho1⟩:∃ o,o = S0 ++ (L0.take j).filter (fun x=>!isIn S0 x.f0):=⟨_,rfl⟩
    have HTO:Aside0 (S0 ++ (L0.take (j + 1)).filter (fun x=>!isIn S0 x.f0) = out1 ++ (if isIn S0 x.f0 = true then [] else [x])):=⟨by rw [HTK.out,ho1,List.append_assoc]⟩
    rw [← ho1] at HR HOL
    clear hx hxe hSA hSn hSc hjl ho1 HTK
    go_upto_region 19 with (fail)
    obtain ⟨w8,hw8⟩:∃ W,W = wr.alloc (Obj.cells #[.int .i64 x.f0,.int .i64 x.f1,.string x.f2,.slice SA Sn Sc] 87):=⟨_,rfl⟩
    obtain ⟨g,hgn⟩:∃ g,g = wr.heap.size:=⟨_,rfl⟩
    have hbl:Below wr.heap.size wr w8:=by rw [hw8];exact below_alloc (Below.refl _ _) _
    have HG8:Aside0 (w8.heap[g]? = some (.cells #[.int .i64 x.f0,.int .i64 x.f1,.string x.f2,.slice SA Sn Sc] 87 (0,0))):=⟨by rw [hw8,hgn];exact blk_new wr _⟩
    have HR8:=Aside0.mk (HR.out.below hbl)
    have HA8:Aside0 (∀ i,AtV w8 w.heap.size ((ga i).getD (.slice none 0 0)) (b.atD i)):=⟨fun i=>AtV.move (HA.out i) (fun k cells hc=>hbl.block k (blk_lt hc))⟩
    have HB8:=Aside0.mk (below_then HB.out (Nat.le_trans HLO.out HS.out) hbl)
    have HS8:Aside0 (base ≤ w8.heap.size):=⟨Nat.le_trans HS.out hbl.size⟩
    rw [← hw8,← hgn]
    have wk:wrap64 ((j:Int) + 1) = (j:Int) + 1:=by have:=HNL.out.2.1;unfold wrap64;omega
    have HWK:=Aside0.mk wk
    have csb:w8.cell? ⟨m0 + 1 + 1,0,none⟩ = some (.map (some (m0 + 1))):=(blk_cell HR8.out.sb 0).trans rfl
    have cob8:w8.cell? ⟨m0,0,none⟩ = some vo:=(blk_cell HR8.out.ob 0).trans rfl
    have cg0:w8.cell? ⟨g,0,none⟩ = some (.int .i64 x.f0):=(blk_cell HG8.out 0).trans rfl
    have cg1:w8.cell? ⟨g,1,none⟩ = some (.int .i64 x.f1):=(blk_cell HG8.out 1).trans rfl
    have cg2:w8.cell? ⟨g,2,none⟩ = some (.string x.f2):=(blk_cell HG8.out 2).trans rfl
    have cg3:w8.cell? ⟨g,3,none⟩ = some (.slice SA Sn Sc):=(blk_cell HG8.out 3).trans rfl
    clear hw8 hgn hbl HR HA HB HS x0 x1 x2 x3 cob wk
    cases hin:isIn S0 x.f0 with
    | true =>
     have HLK:Aside0 ((gs6 x.f0).getD (.bool false) = .bool true):=⟨by rw [HGS.out,hin];rfl⟩
     have HT2:Aside0 (S0 ++ (L0.take (j + 1)).filter (fun x=>!isIn S0 x.f0) = out1):=⟨by rw [HTO.out,hin];simp⟩
     clear hin
     go_wp2_with (at_lookup;refine wp_look _ rfl _ _ 133 4 rfl Try.underlying133 _ (zero4 _) (m0 + 1) S0.length gs6 rfl HR8.out.ms x.f0 rfl HXM.out _ HLK.out ?_)
     have wk:=HWK.out
     go_roundg gl
     case measure=>omega
     case rel=>exact ⟨j + 1,vo,by simp [wk],⟨by have:=HJ.out;omega⟩,⟨by rw [HT2.out];exact HR8.out⟩,HA8,HB8,HS8⟩
    | false =>
     have HLK:Aside0 ((gs6 x.f0).getD (.bool false) = .bool false):=⟨by rw [HGS.out,hin];rfl⟩
     have HT2:Aside0 (S0 ++ (L0.take (j + 1)).filter (fun x=>!isIn S0 x.f0) = out1 ++ [x]):=⟨by rw [HTO.out,hin];rfl⟩
     clear hin
     go_wp2_with (first | (at_lookup;refine wp_look _ rfl _ _ 133 4 rfl Try.underlying133 _ (zero4 _) (m0 + 1) S0.length gs6 rfl HR8.out.ms x.f0 rfl HXM.out _ HLK.out ?_) | (at_builtin;refine print_append_cells (w0:=w8) (W:=w8) base rfl (.tmp 74) (.tmp 76) 70 87 (.agg #[.int .i64 0,.int .i64 0,.string ⟨#[]⟩,.slice none 0 0]) 4 56 rfl Try.underlying70 info87i rfl (by decide) (by decide) vo (out1.map (mk4 (slOf ga))).length ((out1.map (mk4 (slOf ga))).flatMap enc4) [.int .i64 x.f0,.int .i64 x.f1,.string x.f2,.slice SA Sn Sc] rfl rfl rfl (by simp [Value.oneCell']) HR8.out.ro (Below.refl _ _) HS8.out (by have:=HOL.out;rw [List.length_map];omega) ?_;intro vn w9 hr9 hb9 hg9 ha9;have hR9:RowIs w9 base vn ((out1 ++ [x]).map (mk4 (slOf ga))):=rowSnoc HSL.out hr9;obtain ⟨AN,nN,cN,ev⟩:∃ A m c,vn = .slice A m c:=(by obtain ⟨A,c,e,_⟩:=hR9.slice;exact ⟨A,_,c,e⟩);subst ev;have HR9:=Aside0.mk (HR8.out.append hR9 hg9 ha9);have HKP:=Aside0.mk (Kp.of HR8.out.ro hg9);have HB9:=Aside0.mk (HB8.out.grown hg9 (Nat.le_trans HLO.out HS8.out) (fun k hk=>Nat.le_trans HLO.out (HR8.out.ro.cells hk).1));have HS9:Aside0 (base ≤ w9.heap.size):=⟨Nat.le_trans HS8.out hg9.size⟩;have cob9:w9.cell? ⟨m0,0,none⟩ = some vo:=(blk_cell HR9.out.1 0).trans rfl;have cobf:=blk_frozen HR9.out.1 0;clear hr9 hb9 hg9 ha9 hR9 csb cob8 cg0 cg1 cg2 cg3))
     have wk:=HWK.out
     go_roundg gl
     case measure=>omega
     case rel =>
      refine ⟨j + 1,.slice AN nN cN,by simp [wk],⟨by have:=HJ.out;omega⟩,⟨by rw [HT2.out];exact HR9.out.2⟩,⟨fun i=>AtV.move (HA8.out i) (fun k cells hc=>?_)⟩,⟨HB9.out.setCell (by have h1:=HM0.out;have h2:=HLO.out;simp only;omega) _⟩,⟨by have:=HS9.out;simpa using this⟩⟩
      have hk:=HKP.out k _ hc (fun _ e=>by injection e with _ e;exact absurd e (by decide))
      refine ((Below.heap_setCell w9 ⟨m0,0,none⟩ (.slice AN nN cN) k (fun e=>?_)).trans hk).trans hc.symm
      rw [show k = m0 from e,HR9.out.1] at hk
      injection hk with hk
      injection hk with _ hk
      exact absurd hk (by decide)
  ·intro i v w4 cn4 hwf hlf hgi hrg4 hlt hg4 hs4 hen
   obtain ⟨x,hx⟩:∃ x,b.it i = some x:=Option.isSome_iff_exists.1 (by rw [← (HFB.out.its i).1,hgi];rfl)
   obtain rfl:=it_f0 hx
   obtain ⟨hw1,p,u,rfl,hlp,hpb,hpk⟩:=(HFB.out.its x.f0).2 v x hgi hx
   obtain ⟨_,_,_,hit⟩:=HFB.out.rg.iter
   have HP4:Aside0 (w4.heap[p]? = some (.cells #[.int .i64 x.f0,.int .i64 x.f1,.string x.f2,u] 87 (0,0))):=⟨(hg4.block p (blk_lt hpk) (fun e=>by injection e with e;omega)).trans hpk⟩
   have HFB4:=Aside0.mk (HFB.out.next hrg4 hg4)
   have HFR4:=Aside0.mk (HFR.out.next HFB.out.rg hg4)
   have HB4:=Aside0.mk (HB.out.grown hg4 (Nat.le_trans HLO.out HBS.out) (fun k hk=>by cases hk;have:=HLO.out;omega))
   have HS4:Aside0 (base ≤ w4.heap.size):=⟨by have:=HBS.out;have:=hg4.size;omega⟩
   have HX:=Aside0.mk (And.intro (it_mem hx).1 (And.intro hlf hw1))
   have HPB:=Aside0.mk (And.intro hlp hpb)
   have HWI:=Aside0.mk hwf
   have HLT:=Aside0.mk hlt
   have HD4:=Aside0.mk (left_step HD.out HBK.out.nd (it_mem hx).1 hlf)
   obtain ⟨SA,Sc,hat,_⟩:=(HFB.out.ats x.f0).reads
   obtain ⟨Sn,hSn⟩:∃ m,m = (b.atD x.f0).length:=⟨_,rfl⟩
   rw [← hSn] at hat
   have HLK:=Aside0.mk hat
   have HSL:Aside0 (mk4 (slOf ga) x = ⟨x.f0,x.f1,x.f2,SA,Sn,Sc⟩):=⟨by unfold mk4 slOf;rw [hat]⟩
   have cB1:w4.cell? ⟨B,1,none⟩ = some (.map (some Ba)):=(blk_cell HFB4.out.blk 1).trans rfl
   have cp3:w4.cell? ⟨p,3,none⟩ = some u:=(blk_cell HP4.out 3).trans rfl
   have cpf:=blk_frozen HP4.out 3
   clear hx hw1 hlp hpb hpk hit hwf hlf hgi hrg4 hlt hg4 hs4 hSn hat HFB HFR HB HBS HD
   go_upto_region 8 with (at_lookup;refine wp_look _ rfl _ _ 142 24 rfl Try.underlying142 _ (zero24 _) Ba n ga rfl HFB4.out.ma x.f0 rfl HWI.out _ HLK.out ?_)
   clear hen cB1 cp3 cpf
   obtain ⟨w5,hw5⟩:∃ W,W = w4.setCell ⟨p,3,none⟩ (.slice SA Sn Sc):=⟨_,rfl⟩
   have HP5:Aside0 (w5.drew.heap[p]? = some (.cells #[.int .i64 x.f0,.int .i64 x.f1,.string x.f2,.slice SA Sn Sc] 87 (0,0))):=⟨by rw [hw5];exact blk_drew (by have:=blk_set HP4.out 3 (.slice SA Sn Sc);simpa using this)⟩
   have HFB5:Aside0 (FillB w.heap.size base B Bi Ba n (base + 1) base (base + 2) D.length gi ga b (fun j=>left j && !decide (j = x.f0)) cn4 gm w5.drew):=⟨by rw [hw5];exact (HFB4.out.store HP4.out _).move (Kp.below (below_drew (Below.refl _ _)))⟩
   have HFR5:Aside0 (FillR base (slOf ga) gm w5.drew va D D):=⟨by rw [hw5];exact (HFR4.out.store HPB.out.2 _ _).below (below_drew (Below.refl _ _))⟩
   have HB5:Aside0 (Below w.heap.size w w5.drew):=⟨by rw [hw5];exact below_drew (HB4.out.setCell HPB.out.1 _)⟩
   have HS5:Aside0 (base ≤ w5.drew.heap.size):=⟨by rw [hw5];have:=HS4.out;simpa using this⟩
   rw [← hw5]
   clear hw5 HP4 HFB4 HFR4 HB4 HS4
   obtain ⟨vk,hvk⟩:∃ v,v = (gm x.f1).getD (.slice none 0 0):=⟨_,rfl⟩
   have HVK:=Aside0.mk hvk.symm
   have HRK:Aside0 (RowIs w5.drew base vk ((D.filter (fun y:S87=>y.f1 == x.f1)).map (mk4 (slOf ga)))):=⟨by rw [hvk];exact HFR5.out.kids x.f1⟩
   have HDL:Aside0 (D.length ≤ 1073741824 ∧ (D.filter (fun y:S87=>y.f1 == x.f1)).length ≤ 1073741824):=⟨by
    have h1:=HD4.out.length_eq
    have h2:=List.length_filter_le (fun y=>!(left y.f0 && !decide (y.f0 = x.f0))) b.its
    have h3:=List.length_filter_le (fun y:S87=>y.f1 == x.f1) D
    have:=HLN.out
    rw [List.length_append] at h1
    omega⟩
   clear hvk
   refine start_ (n:=17) (S:=fun w'=>w'.cell? ⟨base + 1,0,none⟩ = some (.map (some base)) ∧ w'.cell? ⟨p,0,none⟩ = some (.int .i64 x.f0) ∧ w'.cell? ⟨p,1,none⟩ = some (.int .i64 x.f1) ∧ w'.cell? ⟨p,2,none⟩ = some (.string x.f2) ∧ w'.cell? ⟨p,3,none⟩ = some (.slice SA Sn Sc) ∧ Sem.run Try.prog (Instr.lookup 179 (.map (some base)) (.int .i64 x.f1) false) w' = .ok vk w') (ds:=[16]) #[false,false,false,false,false,false,false,false,false,false,false,false,false,false,false,false,false] (by kernel_rfl) rfl rfl ⟨((blk_cell HFB5.out.kb 0).trans rfl),((blk_cell HP5.out 0).trans rfl),((blk_cell HP5.out 1).trans rfl),((blk_cell HP5.out 2).trans rfl),((blk_cell HP5.out 3).trans rfl),(MapV.run HFB5.out.mK Try.underlying179 (zero70 _) x.f1 HX.out.2.2 HVK.out)⟩ (fun hHeld=>?_)
   refine pure_ (i:=1) (N:=some 36) (v:=?_) (a':=?_) (bm 2 17) rfl rfl (by kernel_rfl) (fun _ _ _ h=>h) (Or.inl ⟨by rfl,?_⟩) ?_ ?_
   rotate_left
   ·intro w'
    go_simp
    with_reducible rfl
   rotate_left
   ·simp only [Act.put,sA,sB,sC,i64_w,i32_w]
    rfl
   refine pure_ (i:=2) (N:=some 37) (v:=?_) (a':=?_) (bm 6 17) rfl rfl (by kernel_rfl) (fun _ _ _ h=>h) (Or.inl ⟨by rfl,?_⟩) ?_ ?_
   rotate_left
   ·intro w'
    go_simp
    with_reducible rfl
   rotate_left
   ·simp only [Act.put,sA,sB,sC,i64_w,i32_w]
    rfl
   refine pure_ (i:=3) (N:=some 38) (v:=?_) (a':=?_) (bm 14 17) rfl rfl (by kernel_rfl) (fun _ _ _ h=>h) (Or.inl ⟨by rfl,?_⟩) ?_ ?_
   rotate_left
   ·intro w'
    go_simp
    with_reducible rfl
   rotate_left
   ·simp only [Act.put,sA,sB,sC,i64_w,i32_w]
    rfl
   refine pure_ (i:=6) (N:=some 41) (v:=?_) (a':=?_) (bm 78 17) rfl rfl (by kernel_rfl) (fun _ _ _ h=>h) (Or.inl ⟨by rfl,?_⟩) ?_ ?_
   rotate_left
   ·intro w'
    go_simp
    with_reducible rfl
   rotate_left
   ·simp only [Act.put,sA,sB,sC,i64_w,i32_w]
    rfl
   refine pure_ (i:=7) (N:=some 42) (v:=?_) (a':=?_) (bm 206 17) rfl rfl (by kernel_rfl) (fun _ _ _ h=>h) (Or.inl ⟨by rfl,?_⟩) ?_ ?_
   rotate_left
   ·intro w'
    go_simp
    with_reducible rfl
   rotate_left
   ·simp only [Act.put,sA,sB,sC,i64_w,i32_w]
    rfl
   refine pure_ (i:=8) (N:=some 43) (v:=?_) (a':=?_) (bm 462 17) rfl rfl (by kernel_rfl) (fun _ _ _ h=>h) (Or.inl ⟨by rfl,?_⟩) ?_ ?_
   rotate_left
   ·intro w'
    go_simp
    with_reducible rfl
   rotate_left
   ·simp only [Act.put,sA,sB,sC,i64_w,i32_w]
    rfl
   refine pure_ (i:=11) (N:=some 46) (v:=?_) (a':=?_) (bm 2510 17) rfl rfl (by kernel_rfl) (fun _ _ _ h=>h) (Or.inl ⟨by rfl,?_⟩) ?_ ?_
   rotate_left
   ·intro w'
    go_simp
    with_reducible rfl
   rotate_left
   ·simp only [Act.put,sA,sB,sC,i64_w,i32_w]
    rfl
   refine pure_ (i:=12) (N:=some 47) (v:=?_) (a':=?_) (bm 6606 17) rfl rfl (by kernel_rfl) (fun _ _ _ h=>h) (Or.inl ⟨by rfl,?_⟩) ?_ ?_
   rotate_left
   ·intro w'
    go_simp
    with_reducible rfl
   rotate_left
   ·simp only [Act.put,sA,sB,sC,i64_w,i32_w]
    rfl
   refine take_ (i:=0) (N:=some 35) (v:=?_) (a':=?_) (bm 6607 17) rfl rfl (by kernel_rfl) (fun _ _ _ h=>h) (Or.inl ⟨by rfl,?_⟩) hHeld ?_ ?_
   rotate_left
   ·rintro w' ⟨s0,s1,s2,s3,s4,s5⟩
    go_simp
    with_reducible rfl
   rotate_left
   ·simp only [Act.put,sA,sB,sC,i64_w,i32_w]
    rfl
   refine take_ (i:=4) (N:=some 39) (v:=?_) (a':=?_) (bm 6623 17) rfl rfl (by kernel_rfl) (fun _ _ _ h=>h) (Or.inl ⟨by rfl,?_⟩) hHeld ?_ ?_
   rotate_left
   ·rintro w' ⟨s0,s1,s2,s3,s4,s5⟩
    go_simp
    with_reducible rfl
   rotate_left
   ·simp only [Act.put,sA,sB,sC,i64_w,i32_w]
    rfl
   refine take_ (i:=5) (N:=some 40) (v:=?_) (a':=?_) (bm 6655 17) rfl rfl (by kernel_rfl) (fun _ _ _ h=>h) (Or.inl ⟨by rfl,?_⟩) hHeld ?_ ?_
   rotate_left
   ·rintro w' ⟨s0,s1,s2,s3,s4,s5⟩
    go_simp
    with_reducible rfl
   rotate_left
   ·simp only [Act.put,sA,sB,sC,i64_w,i32_w]
    rfl
   refine take_ (i:=9) (N:=some 44) (v:=?_) (a':=?_) (bm 7167 17) rfl rfl (by kernel_rfl) (fun _ _ _ h=>h) (Or.inl ⟨by rfl,?_⟩) hHeld ?_ ?_
   rotate_left
   ·rintro w' ⟨s0,s1,s2,s3,s4,s5⟩
    go_simp
    with_reducible rfl
   rotate_left
   ·simp only [Act.put,sA,sB,sC,i64_w,i32_w]
    rfl
   refine take_ (i:=10) (N:=some 45) (v:=?_) (a':=?_) (bm 8191 17) rfl rfl (by kernel_rfl) (fun _ _ _ h=>h) (Or.inl ⟨by rfl,?_⟩) hHeld ?_ ?_
   rotate_left
   ·rintro w' ⟨s0,s1,s2,s3,s4,s5⟩
    go_simp
    with_reducible rfl
   rotate_left
   ·simp only [Act.put,sA,sB,sC,i64_w,i32_w]
    rfl
   refine take_ (i:=13) (N:=some 48) (v:=?_) (a':=?_) (bm 16383 17) rfl rfl (by kernel_rfl) (fun _ _ _ h=>h) (Or.inl ⟨by rfl,?_⟩) hHeld ?_ ?_
   rotate_left
   ·rintro w' ⟨s0,s1,s2,s3,s4,s5⟩
    go_simp
    with_reducible rfl
   rotate_left
   ·simp only [Act.put,sA,sB,sC,i64_w,i32_w]
    rfl
   refine one_ (i:=14) (N:=some 49) (bm 32767 17) rfl rfl (by kernel_rfl) (by decide) (fun K hK=>?_)
   refine value_ (w1:=?_) (v:=?_) (by rfl) rfl ?_ ?_
   rotate_left 2
   ·go_simp
    constructor
    ·rfl
    ·rfl
   refine hK.out _ _ ⟨((blk_cell (blk_alloc HFB5.out.kb _) 0).trans rfl),((blk_cell (blk_alloc HP5.out _) 0).trans rfl),((blk_cell (blk_alloc HP5.out _) 1).trans rfl),((blk_cell (blk_alloc HP5.out _) 2).trans rfl),((blk_cell (blk_alloc HP5.out _) 3).trans rfl),(MapV.run (HFB5.out.mK.block ((below_alloc (Below.refl _ _) _).block _ HFB5.out.mK.lt)) Try.underlying179 (zero70 _) x.f1 HX.out.2.2 HVK.out)⟩ (fun hHeld=>?_)
   clear hK K
   refine norm_ (a':=?_) ?_ ?_
   rotate_left
   ·show Act.put _ (some 49) _ = _
    simp only [Act.put,sA,sB,sC,i64_w,i32_w]
    rfl
   refine one_ (i:=15) (N:=some 50) (bm 65535 17) rfl rfl (by kernel_rfl) (by decide) (fun K hK=>?_)
   refine step_append_cells (P:=Try.prog) (w0:=w5.drew) (W:=w5.drew) base (by rfl) (.tmp 45) (.tmp 49) 70 87 (.agg #[.int .i64 0,.int .i64 0,.string ⟨#[]⟩,.slice none 0 0]) 4 56 rfl Try.underlying70 info87i rfl (by decide) (by decide) vk ((D.filter (fun y:S87=>y.f1 == x.f1)).map (mk4 (slOf ga))).length (((D.filter (fun y:S87=>y.f1 == x.f1)).map (mk4 (slOf ga))).flatMap enc4) [.int .i64 x.f0,.int .i64 x.f1,.string x.f2,.slice SA Sn Sc] rfl rfl rfl (by simp [Value.oneCell']) HRK.out (Below.refl _ _) HS5.out (by have:=HDL.out.2;rw [List.length_map];omega) ?_
   intro vn w6 hr6 hb6 hg6 ha6
   have hR:RowIs w6 base vn ((D.filter (fun y:S87=>y.f1 == x.f1) ++ [x]).map (mk4 (slOf ga))):=rowSnoc HSL.out hr6
   have HFB6:=Aside0.mk (HFB5.out.move (Kp.of HRK.out hg6))
   have hg6':=hg6
   rw [← HVK.out] at hg6' ha6
   have HFR6:=Aside0.mk (HFR5.out.appK hR hg6' ha6)
   have HP6:=Aside0.mk (Kp.of HRK.out hg6 _ _ HP5.out (fun _ _=>HPB.out.2))
   have HB6:=Aside0.mk (HB5.out.grown hg6 (Nat.le_trans HLO.out HS5.out) (fun k hk=>Nat.le_trans HLO.out (HRK.out.cells hk).1))
   have HS6:Aside0 (base ≤ w6.heap.size):=⟨Nat.le_trans HS5.out hg6.size⟩
   clear hr6 hb6 hg6 hg6' ha6 hR HFB5 HFR5 HP5 HB5 HS5 HRK
   refine hK.out _ _ ⟨((blk_cell HFB6.out.kb 0).trans rfl),((blk_cell HP6.out 0).trans rfl),((blk_cell HP6.out 1).trans rfl),((blk_cell HP6.out 2).trans rfl),((blk_cell HP6.out 3).trans rfl),(MapV.run HFB6.out.mK Try.underlying179 (zero70 _) x.f1 HX.out.2.2 HVK.out)⟩ (fun hHeld=>?_)
   clear hK K
   refine norm_ (a':=?_) ?_ ?_
   rotate_left
   ·show Act.put _ (some 50) _ = _
    simp only [Act.put,sA,sB,sC,i64_w,i32_w]
    rfl
   refine last_ (i:=16) (N:=none) (bm 131071 17) rfl rfl (by kernel_rfl) (by decide) (fun K hK=>?_)
   obtain ⟨_,_,hmp⟩:=HFB6.out.mK.map
   have HMP:=Aside0.mk hmp
   clear hmp
   refine step_store _ (by rfl) (.tmp 35) (.tmp 39) (.tmp 50) 179 70 rfl Try.underlying179 base D.length gm rfl HFB6.out.mK (by have:=HDL.out.1;simp only [maxLen];omega) x.f1 rfl HX.out.2.2 _ rfl ?_
   intro w8 hm8 hg8 hs8
   have HFE:=Aside0.mk (And.intro (HFB6.out.put hm8 hg8) (HFR6.out.mapped HMP.out hg8))
   have HBE:=Aside0.mk (HB6.out.grown hg8 (Nat.le_trans HLO.out HS6.out) (fun k hk=>by cases hk;exact HLO.out))
   have HSE:Aside0 (base ≤ w8.heap.size):=⟨Nat.le_trans HS6.out hg8.size⟩
   have HPE:=Aside0.mk ((grown_move HMP.out hg8 _ _ _ HP6.out).trans HP6.out)
   clear hm8 hg8 hs8
   refine hK.out _ _ ?_
   clear hK K
   refine done_ (by kernel_rfl) ?_
   clear hHeld
   have cp0:w8.cell? ⟨p,0,none⟩ = some (.int .i64 x.f0):=(blk_cell HPE.out 0).trans rfl
   have cp1:w8.cell? ⟨p,1,none⟩ = some (.int .i64 x.f1):=(blk_cell HPE.out 1).trans rfl
   have cp2:w8.cell? ⟨p,2,none⟩ = some (.string x.f2):=(blk_cell HPE.out 2).trans rfl
   have cp3:w8.cell? ⟨p,3,none⟩ = some (.slice SA Sn Sc):=(blk_cell HPE.out 3).trans rfl
   go_wp2_with (at_builtin;refine print_append_cells (w0:=w8) (W:=w8) base rfl (.tmp 51) (.tmp 55) 70 87 (.agg #[.int .i64 0,.int .i64 0,.string ⟨#[]⟩,.slice none 0 0]) 4 56 rfl Try.underlying70 info87i rfl (by decide) (by decide) va (D.map (mk4 (slOf ga))).length ((D.map (mk4 (slOf ga))).flatMap enc4) [.int .i64 x.f0,.int .i64 x.f1,.string x.f2,.slice SA Sn Sc] rfl rfl rfl (by simp [Value.oneCell']) HFE.out.2.ra (Below.refl _ _) HSE.out (by have:=HDL.out.1;rw [List.length_map];omega) ?_;intro vn w9 hr9 hb9 hg9 ha9;have HR9:Aside0 (RowIs w9 base vn ((D ++ [x]).map (mk4 (slOf ga)))):=⟨rowSnoc HSL.out hr9⟩;have HFR9:=Aside0.mk (HFE.out.2.appA HR9.out hg9 ha9);have HFB9:=Aside0.mk (HFE.out.1.move (Kp.of HFE.out.2.ra hg9));have HB9:=Aside0.mk (HBE.out.grown hg9 (Nat.le_trans HLO.out HSE.out) (fun k hk=>Nat.le_trans HLO.out (HFE.out.2.ra.cells hk).1));have HS9:Aside0 (base ≤ w9.heap.size):=⟨Nat.le_trans HSE.out hg9.size⟩;clear hr9 hb9 hg9 ha9 HFE HBE HSE HPE)
   obtain ⟨gl,rfl⟩:∃ gl,gk = gl + 1:=⟨gk - 1,by have h1:=HC.out;have h2:=HLT.out;omega⟩
   go_roundg gl
   case measure=>omega
   case rel =>
    refine ⟨_,fun j=>left j && !decide (j = x.f0),cn4,D ++ [x],_,rfl,⟨by have h1:=HC.out;have h2:=HLT.out;omega⟩,HD4,⟨?_⟩,HFR9,HB9,HS9⟩
    rw [List.length_append,List.length_singleton]
    exact HFB9.out
end Go.Proofs.Ytlcodfjlbhjkbaa.PDelta
end
section
namespace Go.Proofs.Ytlcodfjlbhjkbaa.PDelta
open Go.RowKit Go.Proofs.YtlcodfjlbhjkbaaW.PrintWords Go.Proofs.YtlcodfjlbhjkbaaW.PrintLast Go.Proofs.YtlcodfjlbhjkbaaW.PrintMore
open Go.RowKit Go.Proofs.YtlcodfjlbhjkbaaW.PrintWords Go.Proofs.YtlcodfjlbhjkbaaW.PrintLast Go.Proofs.YtlcodfjlbhjkbaaW.PrintMore
end Go.Proofs.Ytlcodfjlbhjkbaa.PDelta
end
section
namespace Go.Proofs.Ytlcodfjlbhjkbaa.PDelta
open Go.RowKit Go.Maps Go.Proofs.YtlcodfjlbhjkbaaW.PrintWords Go.Proofs.YtlcodfjlbhjkbaaW.PrintLast Go.Proofs.YtlcodfjlbhjkbaaW.PrintMore
def RawIs (l:List S128) (r:List S87):Prop:=∃ k b,playF k l ⟨[],[]⟩ = some b ∧ BOK b ∧ b.its.length ≤ 1073741824 ∧ (∀ x ∈ b.its,(Lit.int .i64 x.f0).wf = true) ∧ (∀ o ∈ l,OpOK o) ∧ r = (orderL b).map (fillF b)
theorem RawIs.one {l:List S128} {r q:List S87} (h:RawIs l r) (h':RawIs l q):r = q:=by
 obtain ⟨k,b,h1,_,_,_,_,rfl⟩:=h
 obtain ⟨m,c,h2,_,_,_,_,rfl⟩:=h'
 have e:=(play_le h1 (Nat.le_max_left k m)).symm.trans (play_le h2 (Nat.le_max_right k m))
 cases e
 rfl
open Classical in
noncomputable def replica_Raw.f (l:List S128):Option (List S87):=if h:∃ r,RawIs l r then some h.choose else none
theorem rawis_f {l:List S128} {r:List S87} (h:RawIs l r):replica_Raw.f l = some r:=by
 have hx:∃ r,RawIs l r:=⟨r,h⟩
 rw [replica_Raw.f,dif_pos hx]
 exact congrArg some (RawIs.one hx.choose_spec h)
theorem replica_Raw.calls (A0:Option Addr) (c0:Nat) (l0:List S128) (r:List S87) (w:World) (hr0:Kd.C k128 w A0 l0.length l0) (hc0:l0.length ≤ c0) (h:replica_Raw.f l0 = some r) :
 Calls Try.prog 74 #[.slice A0 l0.length c0] w fun e w'=>∃ v0_:Value,e = .returned v0_ ∧ Kd.N k87 87 w' w.heap.size (fun k_=>(w.heap.size ≤ k_)) v0_ r ∧ Below w.heap.size w w':=by
 unfold replica_Raw.f at h
 split at h
 ·rename_i hx
  obtain rfl:=Option.some.inj h
  obtain ⟨k,b,h1,h2,h3,h4,h5,h6⟩:=hx.choose_spec
  rw [h6]
  refine (raw_calls k A0 c0 l0 w hr0 hc0 h5 b h1 h2 h3 h4).mono ?_
  rintro e w' ⟨v,rfl,hR,hB⟩
  exact ⟨v,rfl,Kd.R_N hR,hB⟩
 ·cases h
end Go.Proofs.Ytlcodfjlbhjkbaa.PDelta
end
section
namespace Go.Proofs.Ytlcodfjlbhjkbaa.PDelta
open Go.RowKit Go.Proofs.YtlcodfjlbhjkbaaW.PrintWords Go.Proofs.YtlcodfjlbhjkbaaW.PrintLast Go.Proofs.YtlcodfjlbhjkbaaW.PrintMore
attribute [local go_sem] max2_int min2_int max_two min_two max_three min_three max_four min_four
attribute [local go_sem high] Go.Proofs.Ytlcodfjlbhjkbaa.Ord.leq_str Go.Proofs.Ytlcodfjlbhjkbaa.Ord.gtr_str Go.Proofs.Ytlcodfjlbhjkbaa.Ord.geq_str
noncomputable section
def replica_Items.f (k:Nat) (l0:List (S128)):Option ((List (S87)) × Int):=(replica_Check.f k l0).bind fun t123=>(if t123 = 0 then ((replica_Raw.f l0).bind fun t124=>(some (t124,0))) else (some (([]:List (S87)),t123)))
set_option maxHeartbeats 8000000 in
set_option maxRecDepth 100000 in
theorem replica_Items.calls (k:Nat) (A0:Option Addr) (c0:Nat) (l0:List (S128)) (r1:List (S87)) (r2:Int) (w:World) (hr0:Kd.C k128 w A0 l0.length l0) (hc0:l0.length ≤ c0) (h:replica_Items.f k l0 = some (r1,r2)) :
 Calls Try.prog 37 #[.slice A0 l0.length c0] w fun e w'=>∃ v0_:Value,e = .returned (.tuple #[v0_,.int .i64 r2]) ∧ Kd.N k87 87 w' w.heap.size (fun k_=>(w.heap.size ≤ k_)) v0_ r1 ∧ Below w.heap.size w w':=by
 have HR0:=Aside0.mk hr0
 have HC0:=Aside0.mk hc0
 clear hr0 hc0
 have HB:=Aside0.mk (Below.refl w.heap.size w)
 have H:((replica_Check.f k l0).bind fun t123=>(if t123 = 0 then ((replica_Raw.f l0).bind fun t124=>(some (t124,0))) else (some (([]:List (S87)),t123)))) = some (r1,r2):=h
 clear h
 replace H:=Option.bind_eq_some_iff.mp H
 obtain ⟨t123,A20,H⟩:=H
 replace H:(if t123 = 0 then ((replica_Raw.f l0).bind fun t124=>(some (t124,0))) else (some (([]:List (S87)),t123))) = some (r1,r2):=H
 have A2:=Aside0.mk A20
 clear A20
 by_cases c3:t123 = 0
 ·rw [if_pos c3] at H
  have c3b0:(t123 == 0) = true:=beq_iff_eq.mpr c3
  have c3b1:(t123 != 0) = false:=bne_eq_false_iff_eq.mpr c3
  clear c3
  replace H:=Option.bind_eq_some_iff.mp H
  obtain ⟨t124,A40,H⟩:=H
  replace H:(some (t124,0)) = some (r1,r2):=H
  have A4:=Aside0.mk A40
  clear A40
  simp only [Option.some.injEq,Prod.mk.injEq] at H
  obtain ⟨rfl,rfl⟩:=H
  go_enter Try.func37,Try.ntmps37
  go_wp2_with (first | ((with_reducible refine gate_callee (f:=72) rfl ?_);refine goesL_ (some 6) rfl rfl Try.func72 (by kernel_rfl) rfl #[.slice A0 l0.length c0] rfl (by (try simp only [List.map_toArray,List.map_cons,List.map_nil]);rfl) ?_;(with_reducible refine (replica_Check.calls k _ _ l0 t123 _ ?side1 ?side2 A2.out).mono ?_);(case side1=>repeat (exact HR0.out));(case side2=>exact HC0.out);rintro e w5 ⟨rfl,hb⟩;refine ⟨_,rfl,?_⟩;replace HB:=Aside0.mk (below_step (by with_reducible exact HB.out) hb);(try clear hb);(try clear hb2);(try clear hk);(try clear hi)) | ((with_reducible refine gate_callee (f:=74) rfl ?_);refine goesL_ (some 11) rfl rfl Try.func74 (by kernel_rfl) rfl #[.slice A0 l0.length c0] rfl (by (try simp only [List.map_toArray,List.map_cons,List.map_nil]);rfl) ?_;(with_reducible refine (replica_Raw.calls _ _ l0 t124 _ ?side1 ?side2 A4.out).mono ?_);(case side1=>repeat (exact (Kd.C_below HR0.out HB.out)));(case side2=>exact HC0.out);rintro e w6 ⟨v125,rfl,ho0,hb⟩;refine ⟨_,rfl,?_⟩;have n0_:=Aside0.mk (Kd.N_lower (Kd.N_mono (ok':=fun k_=>(w.heap.size ≤ k_)) ho0 (fun k_ hk_=>(Nat.le_trans (below_size (by with_reducible exact HB.out)) hk_))) (below_size (by with_reducible exact HB.out)));have n1_:=Aside0.mk (below_step (by with_reducible exact HB.out) hb);clear HB;have HO126:=n0_;have HB:=n1_;clear n0_ n1_;(try clear hb);(try clear hb2);(try clear hk);(try clear hi);(try clear ho0)))
  go_ret2
  exact ⟨_,by rfl,by exact HO126.out,HB.out⟩
 ·rw [if_neg c3] at H
  have c3b0:(t123 == 0) = false:=beq_eq_false_iff_ne.mpr c3
  have c3b1:(t123 != 0) = true:=bne_iff_ne.mpr c3
  simp only [Option.some.injEq,Prod.mk.injEq] at H
  obtain ⟨rfl,rfl⟩:=H
  go_enter Try.func37,Try.ntmps37
  go_wp2_with (((with_reducible refine gate_callee (f:=72) rfl ?_);refine goesL_ (some 6) rfl rfl Try.func72 (by kernel_rfl) rfl #[.slice A0 l0.length c0] rfl (by (try simp only [List.map_toArray,List.map_cons,List.map_nil]);rfl) ?_;(with_reducible refine (replica_Check.calls k _ _ l0 t123 _ ?side1 ?side2 A2.out).mono ?_);(case side1=>repeat (exact HR0.out));(case side2=>exact HC0.out);rintro e w7 ⟨rfl,hb⟩;refine ⟨_,rfl,?_⟩;replace HB:=Aside0.mk (below_step (by with_reducible exact HB.out) hb);(try clear hb);(try clear hb2);(try clear hk);(try clear hi)))
  go_ret2
  exact ⟨_,by rfl,by exact Kd.N_nil _ _ _ _ _,HB.out⟩
def chancerykeep1_draws.f (k:Nat) :Option (Bool):=(replica_Items.f k (([(⟨1,1,0,5,0,(⟨#[98]⟩:ByteArray),(⟨#[]⟩:ByteArray),(⟨#[]⟩:ByteArray)⟩:S128),(⟨2,1,0,6,5,(⟨#[98]⟩:ByteArray),(⟨#[]⟩:ByteArray),(⟨#[]⟩:ByteArray)⟩:S128)]:List (S128)))).bind fun bt130=>(if bt130.2 = 0 then (if (bt130.1.length:Int) = 2 then (if 0 < (bt130.1.length:Int) then (if ((rd_T87 bt130.1 0).f0) = 5 then (if 1 < (bt130.1.length:Int) then (some (((rd_T87 bt130.1 1).f0) == 6)) else (none)) else (some false)) else (none)) else (some false)) else (some false))
set_option maxHeartbeats 8000000 in
set_option maxRecDepth 100000 in
theorem chancerykeep1_draws.calls (k:Nat)  (r:Bool) (w:World) (h:chancerykeep1_draws.f k  = some r) :
 Calls Try.prog 34 #[] w fun e w'=>e = .returned (.bool r) ∧ Below w.heap.size w w':=by
 have hu128:=Try.underlying128
 have HB:=Aside0.mk (Below.refl w.heap.size w)
 have H:((replica_Items.f k (([(⟨1,1,0,5,0,(⟨#[98]⟩:ByteArray),(⟨#[]⟩:ByteArray),(⟨#[]⟩:ByteArray)⟩:S128),(⟨2,1,0,6,5,(⟨#[98]⟩:ByteArray),(⟨#[]⟩:ByteArray),(⟨#[]⟩:ByteArray)⟩:S128)]:List (S128)))).bind fun bt130=>(if bt130.2 = 0 then (if (bt130.1.length:Int) = 2 then (if 0 < (bt130.1.length:Int) then (if ((rd_T87 bt130.1 0).f0) = 5 then (if 1 < (bt130.1.length:Int) then (some (((rd_T87 bt130.1 1).f0) == 6)) else (none)) else (some false)) else (none)) else (some false)) else (some false))) = some r:=h
 clear h
 obtain ⟨y127,hy127⟩:∃ y_:List (S128),y_ = (([(⟨1,1,0,5,0,(⟨#[98]⟩:ByteArray),(⟨#[]⟩:ByteArray),(⟨#[]⟩:ByteArray)⟩:S128),(⟨2,1,0,6,5,(⟨#[98]⟩:ByteArray),(⟨#[]⟩:ByteArray),(⟨#[]⟩:ByteArray)⟩:S128)]:List (S128))):=⟨_,rfl⟩
 replace H:((replica_Items.f k y127).bind fun bt130=>(if bt130.2 = 0 then (if (bt130.1.length:Int) = 2 then (if 0 < (bt130.1.length:Int) then (if ((rd_T87 bt130.1 0).f0) = 5 then (if 1 < (bt130.1.length:Int) then (some (((rd_T87 bt130.1 1).f0) == 6)) else (none)) else (some false)) else (none)) else (some false)) else (some false))) = some r:=by (rw [hy127];with_reducible exact H)
 have Ny127:=Aside0.mk hy127
 clear hy127
 replace H:=Option.bind_eq_some_iff.mp H
 obtain ⟨⟨t130,t133⟩,A10,H⟩:=H
 replace H:(if t133 = 0 then (if (t130.length:Int) = 2 then (if 0 < (t130.length:Int) then (if ((rd_T87 t130 0).f0) = 5 then (if 1 < (t130.length:Int) then (some (((rd_T87 t130 1).f0) == 6)) else (none)) else (some false)) else (none)) else (some false)) else (some false)) = some r:=H
 have A1:=Aside0.mk A10
 clear A10
 by_cases c2:t133 = 0
 ·rw [if_pos c2] at H
  have c2b0:(t133 == 0) = true:=beq_iff_eq.mpr c2
  have c2b1:(t133 != 0) = false:=bne_eq_false_iff_eq.mpr c2
  clear c2
  by_cases c3:(t130.length:Int) = 2
  ·rw [if_pos c3] at H
   have c3b0:((t130.length:Int) == 2) = true:=beq_iff_eq.mpr c3
   have c3b1:((t130.length:Int) != 2) = false:=bne_eq_false_iff_eq.mpr c3
   clear c3
   by_cases c4:0 < (t130.length:Int)
   ·rw [if_pos c4] at H
    have c4b0:decide (0 < (t130.length:Int)) = true:=decide_eq_true c4
    have c4b1:decide (0 < t130.length) = true:=decide_eq_true (by omega)
    clear c4
    by_cases c5:((rd_T87 t130 0).f0) = 5
    ·rw [if_pos c5] at H
     have c5b0:(((rd_T87 t130 0).f0) == 5) = true:=beq_iff_eq.mpr c5
     have c5b1:(((rd_T87 t130 0).f0) != 5) = false:=bne_eq_false_iff_eq.mpr c5
     clear c5
     by_cases c6:1 < (t130.length:Int)
     ·rw [if_pos c6] at H
      have c6b0:decide (1 < (t130.length:Int)) = true:=decide_eq_true c6
      have c6b1:decide (1 < t130.length) = true:=decide_eq_true (by omega)
      clear c6
      obtain rfl:=Option.some.inj H
      go_enter Try.func34,Try.ntmps34
      go_wp2_with (first | ((with_reducible refine gate_dst (N:=6) rfl ?_);(try (refine gate_guard (by rfl) ?_;dsimp only));refine Kd.R_lit k128 _ 128 ?hg (N:=6) ?hd (xs:=([(⟨1,1,0,5,0,(⟨#[98]⟩:ByteArray),(⟨#[]⟩:ByteArray),(⟨#[]⟩:ByteArray)⟩:S128),(⟨2,1,0,6,5,(⟨#[98]⟩:ByteArray),(⟨#[]⟩:ByteArray),(⟨#[]⟩:ByteArray)⟩:S128)]:List (S128))) (inner:=[.int .i64 1,.int .i64 1,.int .i64 0,.int .i64 5,.int .i64 0,.string (⟨#[98]⟩:ByteArray),.string (⟨#[]⟩:ByteArray),.string (⟨#[]⟩:ByteArray),.int .i64 2,.int .i64 1,.int .i64 0,.int .i64 6,.int .i64 5,.string (⟨#[98]⟩:ByteArray),.string (⟨#[]⟩:ByteArray),.string (⟨#[]⟩:ByteArray)]) (ok:=fun _=>True) (okp:=fun _=>True) ?hr ?hp (fun _ hk=>hk) trivial (Below.refl _ _) (Nat.le_refl _) (by simp) ?_;(case hd=>rfl);(case hg=>rfl);(case hr=>(go_simp;done));(case hp=>exact (Reps.c8 (show Kd.M k128 _ _ _ (⟨1,1,0,5,0,(⟨#[98]⟩:ByteArray),(⟨#[]⟩:ByteArray),(⟨#[]⟩:ByteArray)⟩:S128) [.int .i64 1,.int .i64 1,.int .i64 0,.int .i64 5,.int .i64 0,.string (⟨#[98]⟩:ByteArray),.string (⟨#[]⟩:ByteArray),.string (⟨#[]⟩:ByteArray)] from (k128_mkM _ _ _ (⟨1,1,0,5,0,(⟨#[98]⟩:ByteArray),(⟨#[]⟩:ByteArray),(⟨#[]⟩:ByteArray)⟩:S128) )) (Reps.c8 (show Kd.M k128 _ _ _ (⟨2,1,0,6,5,(⟨#[98]⟩:ByteArray),(⟨#[]⟩:ByteArray),(⟨#[]⟩:ByteArray)⟩:S128) [.int .i64 2,.int .i64 1,.int .i64 0,.int .i64 6,.int .i64 5,.string (⟨#[98]⟩:ByteArray),.string (⟨#[]⟩:ByteArray),.string (⟨#[]⟩:ByteArray)] from (k128_mkM _ _ _ (⟨2,1,0,6,5,(⟨#[98]⟩:ByteArray),(⟨#[]⟩:ByteArray),(⟨#[]⟩:ByteArray)⟩:S128) )) (Reps.none _ _))));intro v128 w7 ho8 hb hg_ hnew_;clear hg_ hnew_;(rw [← Ny127.out] at ho8);have n0_:=Aside0.mk (Kd.R_lower ho8 (below_size (by with_reducible exact HB.out)));have n1_:=Aside0.mk (below_step (by with_reducible exact HB.out) hb);clear HB;have HO129:=n0_;have HB:=n1_;clear n0_ n1_;clear hb ho8;obtain ⟨Ao9,co9,eo9⟩:=Kd.R_slice HO129.out;subst eo9) | ((with_reducible refine gate_callee (f:=37) rfl ?_);refine goesL_ (some 7) rfl rfl Try.func37 (by kernel_rfl) rfl #[.slice Ao9 y127.length co9] rfl (by (try simp only [List.map_toArray,List.map_cons,List.map_nil]);rfl) ?_;(with_reducible refine (replica_Items.calls k _ _ y127 t130 t133 _ ?side1 ?side2 A1.out).mono ?_);(case side1=>repeat (exact (Kd.R_reads' HO129.out).2.2));(case side2=>exact (Kd.R_reads' HO129.out).2.1);rintro e w10 ⟨v131,rfl,ho0,hb⟩;refine ⟨_,rfl,?_⟩;have n0_:=Aside0.mk (Kd.R_below HO129.out hb);have n1_:=Aside0.mk (Kd.N_lower (Kd.N_mono (ok':=fun k_=>some k_ ≠ (.slice Ao9 y127.length co9:Value).ownBlock) ho0 (fun k_ hk_=>(Kd.fresh' (Kd.R_lt HO129.out) k_ hk_))) (below_size (by with_reducible exact HB.out)));have n2_:=Aside0.mk (below_step (by with_reducible exact HB.out) hb);clear HO129;clear HB;have HO129:=n0_;have HO132:=n1_;have HB:=n2_;clear n0_ n1_ n2_;(try clear hb);(try clear hb2);(try clear hk);(try clear hi);(try clear ho0);obtain ⟨Ao11,co11,eo11⟩:=Kd.N_slice HO132.out;subst eo11;have p134:0 ≤ (0:Int):=(by omega);have q134:0 < (t130.length:Int):=of_decide_eq_true (by assumption);obtain ⟨ad134,A134_3,c134_3,e134,hx134_0,hx134_1,hx134_2,hx134_3,hl134_3,hi134_3⟩:=at_T87 (Kd.N_reads' HO132.out).2.2 0 p134 q134;cases e134;obtain ⟨ce134,hce134,hMe134,hcc134⟩:=Kd.N_get HO132.out z87 0 p134 q134;obtain ⟨ua134_3,uc134_3,rfl,ul134_3,ge134_3⟩:=k87_openF hMe134;have hv134_3:=hcc134 3 _ rfl;rw [add_field _ _ 3 (by omega)] at hv134_3;replace hv134_3:=Option.some.inj (hv134_3.symm.trans hx134_3);injection hv134_3 with hva_ hvn_ hvc_;rw [hva_] at ge134_3;rw [hvc_] at ul134_3;have HL134_3:=Aside0.mk (show Kd.V k91 91 _ w.heap.size _ _ ((rd_T87 t130 0).f3) from Kd.V_mk ul134_3 ge134_3);clear hva_ hvn_ hvc_ ge134_3 ul134_3;clear hcc134 hce134;have qi134:(0 < t130.length) = True:=eq_true (by omega);(try rw [show ((0:Int)).toNat = 0 from rfl] at hx134_0);(try rw [show 0 * 4 = 0 from rfl] at hx134_0);(try rw [Addr.add_zero'] at hx134_0);(try rw [show ((0:Int)).toNat = 0 from rfl] at hx134_1);(try rw [show 0 * 4 = 0 from rfl] at hx134_1);(try rw [Addr.add_zero'] at hx134_1);(try rw [show ((0:Int)).toNat = 0 from rfl] at hx134_2);(try rw [show 0 * 4 = 0 from rfl] at hx134_2);(try rw [Addr.add_zero'] at hx134_2);(try rw [show ((0:Int)).toNat = 0 from rfl] at hx134_3);(try rw [show 0 * 4 = 0 from rfl] at hx134_3);(try rw [Addr.add_zero'] at hx134_3);have HR134_3:=Aside0.mk hi134_3;have HC134_3:=Aside0.mk hl134_3;clear hi134_3 hl134_3;replace p134:=eq_true p134;replace q134:=eq_true q134;have p135:0 ≤ (1:Int):=(by omega);have q135:1 < (t130.length:Int):=of_decide_eq_true (by assumption);obtain ⟨ad135,A135_3,c135_3,e135,hx135_0,hx135_1,hx135_2,hx135_3,hl135_3,hi135_3⟩:=at_T87 (Kd.N_reads' HO132.out).2.2 1 p135 q135;obtain rfl:ad134 = ad135:=(by injection e135);obtain ⟨ce135,hce135,hMe135,hcc135⟩:=Kd.N_get HO132.out z87 1 p135 q135;obtain ⟨ua135_3,uc135_3,rfl,ul135_3,ge135_3⟩:=k87_openF hMe135;have hv135_3:=hcc135 3 _ rfl;rw [add_field _ _ 3 (by omega)] at hv135_3;replace hv135_3:=Option.some.inj (hv135_3.symm.trans hx135_3);injection hv135_3 with hva_ hvn_ hvc_;rw [hva_] at ge135_3;rw [hvc_] at ul135_3;have HL135_3:=Aside0.mk (show Kd.V k91 91 _ w.heap.size _ _ ((rd_T87 t130 1).f3) from Kd.V_mk ul135_3 ge135_3);clear hva_ hvn_ hvc_ ge135_3 ul135_3;clear hcc135 hce135;(try simp only [show (1:Int).toNat = 1 from rfl,Nat.reduceMul,Nat.reduceEqDiff,Go.Addr.add,↓reduceIte] at hx135_0);(try simp only [show (1:Int).toNat = 1 from rfl,Nat.reduceMul,Nat.reduceEqDiff,Go.Addr.add,↓reduceIte] at hx135_1);(try simp only [show (1:Int).toNat = 1 from rfl,Nat.reduceMul,Nat.reduceEqDiff,Go.Addr.add,↓reduceIte] at hx135_2);(try simp only [show (1:Int).toNat = 1 from rfl,Nat.reduceMul,Nat.reduceEqDiff,Go.Addr.add,↓reduceIte] at hx135_3);have qi135:(1 < t130.length) = True:=eq_true (by omega);(try rw [show ((1:Int)).toNat = 1 from rfl] at hx135_0);(try rw [show 1 * 4 = 4 from rfl] at hx135_0);(try rw [show ((1:Int)).toNat = 1 from rfl] at hx135_1);(try rw [show 1 * 4 = 4 from rfl] at hx135_1);(try rw [show ((1:Int)).toNat = 1 from rfl] at hx135_2);(try rw [show 1 * 4 = 4 from rfl] at hx135_2);(try rw [show ((1:Int)).toNat = 1 from rfl] at hx135_3);(try rw [show 1 * 4 = 4 from rfl] at hx135_3);have HR135_3:=Aside0.mk hi135_3;have HC135_3:=Aside0.mk hl135_3;clear hi135_3 hl135_3;replace p135:=eq_true p135;replace q135:=eq_true q135))
      go_ret
      exact ⟨by rfl,HB.out⟩
     ·rw [if_neg c6] at H
      exact absurd H (by simp)
    ·rw [if_neg c5] at H
     have c5b0:(((rd_T87 t130 0).f0) == 5) = false:=beq_eq_false_iff_ne.mpr c5
     have c5b1:(((rd_T87 t130 0).f0) != 5) = true:=bne_iff_ne.mpr c5
     obtain rfl:=Option.some.inj H
     go_enter Try.func34,Try.ntmps34
     go_wp2_with (first | ((with_reducible refine gate_dst (N:=6) rfl ?_);(try (refine gate_guard (by rfl) ?_;dsimp only));refine Kd.R_lit k128 _ 128 ?hg (N:=6) ?hd (xs:=([(⟨1,1,0,5,0,(⟨#[98]⟩:ByteArray),(⟨#[]⟩:ByteArray),(⟨#[]⟩:ByteArray)⟩:S128),(⟨2,1,0,6,5,(⟨#[98]⟩:ByteArray),(⟨#[]⟩:ByteArray),(⟨#[]⟩:ByteArray)⟩:S128)]:List (S128))) (inner:=[.int .i64 1,.int .i64 1,.int .i64 0,.int .i64 5,.int .i64 0,.string (⟨#[98]⟩:ByteArray),.string (⟨#[]⟩:ByteArray),.string (⟨#[]⟩:ByteArray),.int .i64 2,.int .i64 1,.int .i64 0,.int .i64 6,.int .i64 5,.string (⟨#[98]⟩:ByteArray),.string (⟨#[]⟩:ByteArray),.string (⟨#[]⟩:ByteArray)]) (ok:=fun _=>True) (okp:=fun _=>True) ?hr ?hp (fun _ hk=>hk) trivial (Below.refl _ _) (Nat.le_refl _) (by simp) ?_;(case hd=>rfl);(case hg=>rfl);(case hr=>(go_simp;done));(case hp=>exact (Reps.c8 (show Kd.M k128 _ _ _ (⟨1,1,0,5,0,(⟨#[98]⟩:ByteArray),(⟨#[]⟩:ByteArray),(⟨#[]⟩:ByteArray)⟩:S128) [.int .i64 1,.int .i64 1,.int .i64 0,.int .i64 5,.int .i64 0,.string (⟨#[98]⟩:ByteArray),.string (⟨#[]⟩:ByteArray),.string (⟨#[]⟩:ByteArray)] from (k128_mkM _ _ _ (⟨1,1,0,5,0,(⟨#[98]⟩:ByteArray),(⟨#[]⟩:ByteArray),(⟨#[]⟩:ByteArray)⟩:S128) )) (Reps.c8 (show Kd.M k128 _ _ _ (⟨2,1,0,6,5,(⟨#[98]⟩:ByteArray),(⟨#[]⟩:ByteArray),(⟨#[]⟩:ByteArray)⟩:S128) [.int .i64 2,.int .i64 1,.int .i64 0,.int .i64 6,.int .i64 5,.string (⟨#[98]⟩:ByteArray),.string (⟨#[]⟩:ByteArray),.string (⟨#[]⟩:ByteArray)] from (k128_mkM _ _ _ (⟨2,1,0,6,5,(⟨#[98]⟩:ByteArray),(⟨#[]⟩:ByteArray),(⟨#[]⟩:ByteArray)⟩:S128) )) (Reps.none _ _))));intro v128 w12 ho13 hb hg_ hnew_;clear hg_ hnew_;(rw [← Ny127.out] at ho13);have n0_:=Aside0.mk (Kd.R_lower ho13 (below_size (by with_reducible exact HB.out)));have n1_:=Aside0.mk (below_step (by with_reducible exact HB.out) hb);clear HB;have HO129:=n0_;have HB:=n1_;clear n0_ n1_;clear hb ho13;obtain ⟨Ao14,co14,eo14⟩:=Kd.R_slice HO129.out;subst eo14) | ((with_reducible refine gate_callee (f:=37) rfl ?_);refine goesL_ (some 7) rfl rfl Try.func37 (by kernel_rfl) rfl #[.slice Ao14 y127.length co14] rfl (by (try simp only [List.map_toArray,List.map_cons,List.map_nil]);rfl) ?_;(with_reducible refine (replica_Items.calls k _ _ y127 t130 t133 _ ?side1 ?side2 A1.out).mono ?_);(case side1=>repeat (exact (Kd.R_reads' HO129.out).2.2));(case side2=>exact (Kd.R_reads' HO129.out).2.1);rintro e w15 ⟨v131,rfl,ho0,hb⟩;refine ⟨_,rfl,?_⟩;have n0_:=Aside0.mk (Kd.R_below HO129.out hb);have n1_:=Aside0.mk (Kd.N_lower (Kd.N_mono (ok':=fun k_=>some k_ ≠ (.slice Ao14 y127.length co14:Value).ownBlock) ho0 (fun k_ hk_=>(Kd.fresh' (Kd.R_lt HO129.out) k_ hk_))) (below_size (by with_reducible exact HB.out)));have n2_:=Aside0.mk (below_step (by with_reducible exact HB.out) hb);clear HO129;clear HB;have HO129:=n0_;have HO132:=n1_;have HB:=n2_;clear n0_ n1_ n2_;(try clear hb);(try clear hb2);(try clear hk);(try clear hi);(try clear ho0);obtain ⟨Ao16,co16,eo16⟩:=Kd.N_slice HO132.out;subst eo16;have p134:0 ≤ (0:Int):=(by omega);have q134:0 < (t130.length:Int):=of_decide_eq_true (by assumption);obtain ⟨ad134,A134_3,c134_3,e134,hx134_0,hx134_1,hx134_2,hx134_3,hl134_3,hi134_3⟩:=at_T87 (Kd.N_reads' HO132.out).2.2 0 p134 q134;cases e134;obtain ⟨ce134,hce134,hMe134,hcc134⟩:=Kd.N_get HO132.out z87 0 p134 q134;obtain ⟨ua134_3,uc134_3,rfl,ul134_3,ge134_3⟩:=k87_openF hMe134;have hv134_3:=hcc134 3 _ rfl;rw [add_field _ _ 3 (by omega)] at hv134_3;replace hv134_3:=Option.some.inj (hv134_3.symm.trans hx134_3);injection hv134_3 with hva_ hvn_ hvc_;rw [hva_] at ge134_3;rw [hvc_] at ul134_3;have HL134_3:=Aside0.mk (show Kd.V k91 91 _ w.heap.size _ _ ((rd_T87 t130 0).f3) from Kd.V_mk ul134_3 ge134_3);clear hva_ hvn_ hvc_ ge134_3 ul134_3;clear hcc134 hce134;have qi134:(0 < t130.length) = True:=eq_true (by omega);(try rw [show ((0:Int)).toNat = 0 from rfl] at hx134_0);(try rw [show 0 * 4 = 0 from rfl] at hx134_0);(try rw [Addr.add_zero'] at hx134_0);(try rw [show ((0:Int)).toNat = 0 from rfl] at hx134_1);(try rw [show 0 * 4 = 0 from rfl] at hx134_1);(try rw [Addr.add_zero'] at hx134_1);(try rw [show ((0:Int)).toNat = 0 from rfl] at hx134_2);(try rw [show 0 * 4 = 0 from rfl] at hx134_2);(try rw [Addr.add_zero'] at hx134_2);(try rw [show ((0:Int)).toNat = 0 from rfl] at hx134_3);(try rw [show 0 * 4 = 0 from rfl] at hx134_3);(try rw [Addr.add_zero'] at hx134_3);have HR134_3:=Aside0.mk hi134_3;have HC134_3:=Aside0.mk hl134_3;clear hi134_3 hl134_3;replace p134:=eq_true p134;replace q134:=eq_true q134))
     go_ret
     exact ⟨by rfl,HB.out⟩
   ·rw [if_neg c4] at H
    exact absurd H (by simp)
  ·rw [if_neg c3] at H
   have c3b0:((t130.length:Int) == 2) = false:=beq_eq_false_iff_ne.mpr c3
   have c3b1:((t130.length:Int) != 2) = true:=bne_iff_ne.mpr c3
   obtain rfl:=Option.some.inj H
   go_enter Try.func34,Try.ntmps34
   go_wp2_with (first | ((with_reducible refine gate_dst (N:=6) rfl ?_);(try (refine gate_guard (by rfl) ?_;dsimp only));refine Kd.R_lit k128 _ 128 ?hg (N:=6) ?hd (xs:=([(⟨1,1,0,5,0,(⟨#[98]⟩:ByteArray),(⟨#[]⟩:ByteArray),(⟨#[]⟩:ByteArray)⟩:S128),(⟨2,1,0,6,5,(⟨#[98]⟩:ByteArray),(⟨#[]⟩:ByteArray),(⟨#[]⟩:ByteArray)⟩:S128)]:List (S128))) (inner:=[.int .i64 1,.int .i64 1,.int .i64 0,.int .i64 5,.int .i64 0,.string (⟨#[98]⟩:ByteArray),.string (⟨#[]⟩:ByteArray),.string (⟨#[]⟩:ByteArray),.int .i64 2,.int .i64 1,.int .i64 0,.int .i64 6,.int .i64 5,.string (⟨#[98]⟩:ByteArray),.string (⟨#[]⟩:ByteArray),.string (⟨#[]⟩:ByteArray)]) (ok:=fun _=>True) (okp:=fun _=>True) ?hr ?hp (fun _ hk=>hk) trivial (Below.refl _ _) (Nat.le_refl _) (by simp) ?_;(case hd=>rfl);(case hg=>rfl);(case hr=>(go_simp;done));(case hp=>exact (Reps.c8 (show Kd.M k128 _ _ _ (⟨1,1,0,5,0,(⟨#[98]⟩:ByteArray),(⟨#[]⟩:ByteArray),(⟨#[]⟩:ByteArray)⟩:S128) [.int .i64 1,.int .i64 1,.int .i64 0,.int .i64 5,.int .i64 0,.string (⟨#[98]⟩:ByteArray),.string (⟨#[]⟩:ByteArray),.string (⟨#[]⟩:ByteArray)] from (k128_mkM _ _ _ (⟨1,1,0,5,0,(⟨#[98]⟩:ByteArray),(⟨#[]⟩:ByteArray),(⟨#[]⟩:ByteArray)⟩:S128) )) (Reps.c8 (show Kd.M k128 _ _ _ (⟨2,1,0,6,5,(⟨#[98]⟩:ByteArray),(⟨#[]⟩:ByteArray),(⟨#[]⟩:ByteArray)⟩:S128) [.int .i64 2,.int .i64 1,.int .i64 0,.int .i64 6,.int .i64 5,.string (⟨#[98]⟩:ByteArray),.string (⟨#[]⟩:ByteArray),.string (⟨#[]⟩:ByteArray)] from (k128_mkM _ _ _ (⟨2,1,0,6,5,(⟨#[98]⟩:ByteArray),(⟨#[]⟩:ByteArray),(⟨#[]⟩:ByteArray)⟩:S128) )) (Reps.none _ _))));intro v128 w17 ho18 hb hg_ hnew_;clear hg_ hnew_;(rw [← Ny127.out] at ho18);have n0_:=Aside0.mk (Kd.R_lower ho18 (below_size (by with_reducible exact HB.out)));have n1_:=Aside0.mk (below_step (by with_reducible exact HB.out) hb);clear HB;have HO129:=n0_;have HB:=n1_;clear n0_ n1_;clear hb ho18;obtain ⟨Ao19,co19,eo19⟩:=Kd.R_slice HO129.out;subst eo19) | ((with_reducible refine gate_callee (f:=37) rfl ?_);refine goesL_ (some 7) rfl rfl Try.func37 (by kernel_rfl) rfl #[.slice Ao19 y127.length co19] rfl (by (try simp only [List.map_toArray,List.map_cons,List.map_nil]);rfl) ?_;(with_reducible refine (replica_Items.calls k _ _ y127 t130 t133 _ ?side1 ?side2 A1.out).mono ?_);(case side1=>repeat (exact (Kd.R_reads' HO129.out).2.2));(case side2=>exact (Kd.R_reads' HO129.out).2.1);rintro e w20 ⟨v131,rfl,ho0,hb⟩;refine ⟨_,rfl,?_⟩;have n0_:=Aside0.mk (Kd.R_below HO129.out hb);have n1_:=Aside0.mk (Kd.N_lower (Kd.N_mono (ok':=fun k_=>some k_ ≠ (.slice Ao19 y127.length co19:Value).ownBlock) ho0 (fun k_ hk_=>(Kd.fresh' (Kd.R_lt HO129.out) k_ hk_))) (below_size (by with_reducible exact HB.out)));have n2_:=Aside0.mk (below_step (by with_reducible exact HB.out) hb);clear HO129;clear HB;have HO129:=n0_;have HO132:=n1_;have HB:=n2_;clear n0_ n1_ n2_;(try clear hb);(try clear hb2);(try clear hk);(try clear hi);(try clear ho0);obtain ⟨Ao21,co21,eo21⟩:=Kd.N_slice HO132.out;subst eo21))
   go_ret
   exact ⟨by rfl,HB.out⟩
 ·rw [if_neg c2] at H
  have c2b0:(t133 == 0) = false:=beq_eq_false_iff_ne.mpr c2
  have c2b1:(t133 != 0) = true:=bne_iff_ne.mpr c2
  obtain rfl:=Option.some.inj H
  go_enter Try.func34,Try.ntmps34
  go_wp2_with (first | ((with_reducible refine gate_dst (N:=6) rfl ?_);(try (refine gate_guard (by rfl) ?_;dsimp only));refine Kd.R_lit k128 _ 128 ?hg (N:=6) ?hd (xs:=([(⟨1,1,0,5,0,(⟨#[98]⟩:ByteArray),(⟨#[]⟩:ByteArray),(⟨#[]⟩:ByteArray)⟩:S128),(⟨2,1,0,6,5,(⟨#[98]⟩:ByteArray),(⟨#[]⟩:ByteArray),(⟨#[]⟩:ByteArray)⟩:S128)]:List (S128))) (inner:=[.int .i64 1,.int .i64 1,.int .i64 0,.int .i64 5,.int .i64 0,.string (⟨#[98]⟩:ByteArray),.string (⟨#[]⟩:ByteArray),.string (⟨#[]⟩:ByteArray),.int .i64 2,.int .i64 1,.int .i64 0,.int .i64 6,.int .i64 5,.string (⟨#[98]⟩:ByteArray),.string (⟨#[]⟩:ByteArray),.string (⟨#[]⟩:ByteArray)]) (ok:=fun _=>True) (okp:=fun _=>True) ?hr ?hp (fun _ hk=>hk) trivial (Below.refl _ _) (Nat.le_refl _) (by simp) ?_;(case hd=>rfl);(case hg=>rfl);(case hr=>(go_simp;done));(case hp=>exact (Reps.c8 (show Kd.M k128 _ _ _ (⟨1,1,0,5,0,(⟨#[98]⟩:ByteArray),(⟨#[]⟩:ByteArray),(⟨#[]⟩:ByteArray)⟩:S128) [.int .i64 1,.int .i64 1,.int .i64 0,.int .i64 5,.int .i64 0,.string (⟨#[98]⟩:ByteArray),.string (⟨#[]⟩:ByteArray),.string (⟨#[]⟩:ByteArray)] from (k128_mkM _ _ _ (⟨1,1,0,5,0,(⟨#[98]⟩:ByteArray),(⟨#[]⟩:ByteArray),(⟨#[]⟩:ByteArray)⟩:S128) )) (Reps.c8 (show Kd.M k128 _ _ _ (⟨2,1,0,6,5,(⟨#[98]⟩:ByteArray),(⟨#[]⟩:ByteArray),(⟨#[]⟩:ByteArray)⟩:S128) [.int .i64 2,.int .i64 1,.int .i64 0,.int .i64 6,.int .i64 5,.string (⟨#[98]⟩:ByteArray),.string (⟨#[]⟩:ByteArray),.string (⟨#[]⟩:ByteArray)] from (k128_mkM _ _ _ (⟨2,1,0,6,5,(⟨#[98]⟩:ByteArray),(⟨#[]⟩:ByteArray),(⟨#[]⟩:ByteArray)⟩:S128) )) (Reps.none _ _))));intro v128 w22 ho23 hb hg_ hnew_;clear hg_ hnew_;(rw [← Ny127.out] at ho23);have n0_:=Aside0.mk (Kd.R_lower ho23 (below_size (by with_reducible exact HB.out)));have n1_:=Aside0.mk (below_step (by with_reducible exact HB.out) hb);clear HB;have HO129:=n0_;have HB:=n1_;clear n0_ n1_;clear hb ho23;obtain ⟨Ao24,co24,eo24⟩:=Kd.R_slice HO129.out;subst eo24) | ((with_reducible refine gate_callee (f:=37) rfl ?_);refine goesL_ (some 7) rfl rfl Try.func37 (by kernel_rfl) rfl #[.slice Ao24 y127.length co24] rfl (by (try simp only [List.map_toArray,List.map_cons,List.map_nil]);rfl) ?_;(with_reducible refine (replica_Items.calls k _ _ y127 t130 t133 _ ?side1 ?side2 A1.out).mono ?_);(case side1=>repeat (exact (Kd.R_reads' HO129.out).2.2));(case side2=>exact (Kd.R_reads' HO129.out).2.1);rintro e w25 ⟨v131,rfl,ho0,hb⟩;refine ⟨_,rfl,?_⟩;have n0_:=Aside0.mk (Kd.R_below HO129.out hb);have n1_:=Aside0.mk (Kd.N_lower (Kd.N_mono (ok':=fun k_=>some k_ ≠ (.slice Ao24 y127.length co24:Value).ownBlock) ho0 (fun k_ hk_=>(Kd.fresh' (Kd.R_lt HO129.out) k_ hk_))) (below_size (by with_reducible exact HB.out)));have n2_:=Aside0.mk (below_step (by with_reducible exact HB.out) hb);clear HO129;clear HB;have HO129:=n0_;have HO132:=n1_;have HB:=n2_;clear n0_ n1_ n2_;(try clear hb);(try clear hb2);(try clear hk);(try clear hi);(try clear ho0)))
  go_ret
  exact ⟨by rfl,HB.out⟩
end
end Go.Proofs.Ytlcodfjlbhjkbaa.PDelta
end
section
namespace Go.Proofs.Ytlcodfjlbhjkbaa.PDelta
open Go.RowKit Go.Proofs.YtlcodfjlbhjkbaaW.PrintWords Go.Proofs.YtlcodfjlbhjkbaaW.PrintLast Go.Proofs.YtlcodfjlbhjkbaaW.PrintMore
def joinsF (k:Nat):List (List S128) → List S128 → Option (List S128)
 | [],one=>some one
 | x :: r,one=>(replica_Join.f k one x).bind fun p=>if p.2 = 0 then joinsF k r p.1 else none
def joins2F (k:Nat):List (List S128) → List S128 → Option (List S128)
 | [],one=>some one
 | x :: r,one=>(replica_Join.f k x one).bind fun p=>if p.2 = 0 then joins2F k r p.1 else none
def sel3 {α:Type} (a b c:α) (j:Int):α:=if j = 0 then a else if j = 1 then b else c
def partX (l0 l1 l2:List S128) (kk:Int) (i:Nat):List S128:=sel3 l0 l1 l2 ((kk * 5 + (i:Int) * (1 + kk % 2)) % 3)
def partL (l0 l1 l2:List S128) (kk:Int) (i:Nat):List S128:=if i % 2 = 0 then (partX l0 l1 l2 kk i).drop ((partX l0 l1 l2 kk i).length / 2) else partX l0 l1 l2 kk i
structure AnyAt (k:Nat) (p q r:List Int) (which:Int) (l0 l1 l2:List S128) (kk:Int) (one two1 two:List S128) (a b:List S87):Prop where
 draws:chancerykeep1_draws.f k = some true
 p0:paintsF p 1 = some l0
 p1:paintsF q 2 = some l1
 p2:paintsF r 3 = some l2
 within:chanceryref1_Within.f which 0 5 = some kk
 k0:0 ≤ kk
 k5:kk ≤ 5
 j1:joinsF k [l0,l1,l2] [] = some one
 j2:joinsF k ((List.range 6).map (partL l0 l1 l2 kk)) [] = some two1
 j3:joins2F k [l2,l1,l0] two1 = some two
 i1:replica_Items.f k one = some (a,0)
 i2:replica_Items.f k two = some (b,0)
 s1:chanceryref1_SameOps.f k one two = some true
 s2:chanceryref1_SameItems.f k a b = some true
theorem row_C {w:World} {base:Nat} {ok:Nat → Prop} {v:Value} {l:List S128} (h:Kd.R k128 128 w base ok v l):∃ A c,v = .slice A l.length c ∧ l.length ≤ c ∧ Kd.C k128 w A l.length l:=by
 obtain ⟨A,c,rfl⟩:=Kd.R_slice h
 exact ⟨A,c,rfl,(Kd.R_reads' h).2.1,(Kd.R_reads' h).2.2⟩
theorem C_nil (w:World):Kd.C k128 w none 0 []:=(Kd.R_reads' (Kd.R_nil k128 128 w 0 (fun _=>True))).2.2
def ReadsL (w:World) (v:Value) (l:List S128):Prop:=∃ A c,v = .slice A l.length c ∧ l.length ≤ c ∧ Kd.C k128 w A l.length l
theorem ReadsL.nil (w:World):ReadsL w (.slice none 0 0) []:=⟨none,0,rfl,Nat.le_refl _,C_nil w⟩
theorem joins_step {k:Nat} {x:List S128} {r:List (List S128)} {cur one:List S128} (h:joinsF k (x :: r) cur = some one):∃ c,replica_Join.f k cur x = some (c,0) ∧ joinsF k r c = some one:=by
 rw [joinsF] at h
 obtain ⟨p,hp,h⟩:=Option.bind_eq_some_iff.1 h
 split at h
 ·rename_i h0
  exact ⟨p.1,by rw [hp,← h0],h⟩
 ·cases h
theorem joins2_step {k:Nat} {x:List S128} {r:List (List S128)} {cur one:List S128} (h:joins2F k (x :: r) cur = some one):∃ c,replica_Join.f k x cur = some (c,0) ∧ joins2F k r c = some one:=by
 rw [joins2F] at h
 obtain ⟨p,hp,h⟩:=Option.bind_eq_some_iff.1 h
 split at h
 ·rename_i h0
  exact ⟨p.1,by rw [hp,← h0],h⟩
 ·cases h
theorem range_drop {α:Type} (f:Nat → α) (i:Nat) (h:i < 6):((List.range 6).map f).drop i = f i :: ((List.range 6).map f).drop (i + 1):=by
 rw [List.drop_eq_getElem_cons (by simpa using h)]
 simp
theorem idx3 {kk:Int} {j:Nat} (h0:0 ≤ kk) (h5:kk ≤ 5) (hj:j < 6):(wrap64 (kk * 5 + wrap64 ((j:Int) * (1 + kk % 2)))).tmod 3 = (kk * 5 + (j:Int) * (1 + kk % 2)) % 3 ∧ 0 ≤ (kk * 5 + (j:Int) * (1 + kk % 2)) % 3 ∧ (kk * 5 + (j:Int) * (1 + kk % 2)) % 3 < 3:=by
 obtain ⟨m,hm,h1⟩:∃ m:Int,m = (j:Int) * (1 + kk % 2) ∧ 0 ≤ m ∧ m ≤ 12:=by
  refine ⟨_,rfl,?_⟩
  have e:kk % 2 = 0 ∨ kk % 2 = 1:=by omega
  rcases e with e | e
  ·rw [e];omega
  ·rw [e];omega
 rw [← hm]
 have e1:wrap64 m = m:=by unfold wrap64;omega
 have e2:wrap64 (kk * 5 + m) = kk * 5 + m:=by unfold wrap64;omega
 rw [e1,e2,Int.tmod_eq_emod_of_nonneg (by omega)]
 omega
theorem cut128 {w:World} {A:Option Addr} {c:Nat} {X:List S128} (h:Kd.C k128 w A X.length X) (hc:X.length ≤ c):∃ A' c',(∀ W,Sem.run Try.prog (Instr.slice 65 (.slice A X.length c) (some (.int .i64 ((X.length:Int) / 2))) none none) W = .ok (.slice A' (X.drop (X.length / 2)).length c') W) ∧ Kd.C k128 w A' (X.drop (X.length / 2)).length (X.drop (X.length / 2)) ∧ (X.drop (X.length / 2)).length ≤ c':=by
 obtain ⟨i,hi,hz⟩:=Option.map_eq_some_iff.1 info128
 simp only [Prod.mk.injEq] at hz
 have hm:X.length / 2 ≤ X.length:=Nat.div_le_self _ _
 have e:((X.length:Int) / 2).toNat = X.length / 2:=by omega
 have hl:(X.drop (X.length / 2)).length = X.length - X.length / 2:=List.length_drop
 refine ⟨_,_,fun W=>?_,Kd.C_drop h hm hc,by rw [hl];exact Nat.sub_le_sub_right hc _⟩
 rw [cut_from 65 128 .i64 Try.underlying65 hi 8 hz.2.1 A X.length c ((X.length:Int) / 2) (by omega) (by omega) W,e,hl]
 rfl
theorem sel_C {w:World} {B0 B1 B2:Option Addr} {d0 d1 d2:Nat} {l0 l1 l2:List S128} (h0:Kd.C k128 w B0 l0.length l0 ∧ l0.length ≤ d0) (h1:Kd.C k128 w B1 l1.length l1 ∧ l1.length ≤ d1) (h2:Kd.C k128 w B2 l2.length l2 ∧ l2.length ≤ d2) {g:Nat} (hg:w.heap[g]? = some (.cells #[.slice B0 l0.length d0,.slice B1 l1.length d1,.slice B2 l2.length d2] 67 (0,0))) {J:Int} (hJ0:0 ≤ J) (hJ3:J < 3) :
 ∃ SB SD,Kd.C k128 w SB (sel3 l0 l1 l2 J).length (sel3 l0 l1 l2 J) ∧ (sel3 l0 l1 l2 J).length ≤ SD ∧ w.cell? ⟨g,J.toNat,none⟩ = some (.slice SB (sel3 l0 l1 l2 J).length SD):=by
 obtain rfl | rfl | rfl:J = 0 ∨ J = 1 ∨ J = 2:=by omega
 ·exact ⟨B0,d0,h0.1,h0.2,(blk_cell hg 0).trans rfl⟩
 ·exact ⟨B1,d1,h1.1,h1.2,(blk_cell hg 1).trans rfl⟩
 ·exact ⟨B2,d2,h2.1,h2.2,(blk_cell hg 2).trans rfl⟩
set_option maxRecDepth 100000 in
set_option maxHeartbeats 8000000 in
theorem any_calls (k:Nat) (A0:Option Addr) (c0:Nat) (p:List Int) (A1:Option Addr) (c1:Nat) (q:List Int) (A2:Option Addr) (c2:Nat) (r:List Int) (which:Int) (w:World) (hr0:Kd.C (Kd.int .i64) w A0 p.length p) (hc0:p.length ≤ c0) (hr1:Kd.C (Kd.int .i64) w A1 q.length q) (hc1:q.length ≤ c1) (hr2:Kd.C (Kd.int .i64) w A2 r.length r) (hc2:r.length ≤ c2)
 {l0 l1 l2:List S128} {kk:Int} {one two1 two:List S128} {a b:List S87} (h:AnyAt k p q r which l0 l1 l2 kk one two1 two a b) :
 Calls Try.prog 8 #[.slice A0 p.length c0,.slice A1 q.length c1,.slice A2 r.length c2,.int .i64 which] w fun e w'=>e = .returned (.bool true) ∧ Below w.heap.size w w':=by
 have HA:=Aside0.mk h
 have HR0:=Aside0.mk (And.intro hr0 hc0)
 have HR1:=Aside0.mk (And.intro hr1 hc1)
 have HR2:=Aside0.mk (And.intro hr2 hc2)
 clear h hr0 hc0 hr1 hc1 hr2 hc2
 go_enter Try.func8,Try.ntmps8
 go_upto_region 4 with (first | (go_at_call 34;(with_reducible refine (chancerykeep1_draws.calls k true _ HA.out.draws).mono ?_);rintro e1 w1 ⟨rfl,hb⟩;have HB1:=Aside0.mk hb;clear hb) | (go_at_call 35;(with_reducible refine (paints_calls A0 c0 p 1 l0 w1 (Kd.C_below HR0.out.1 HB1.out) HR0.out.2 HA.out.p0).mono ?_);rintro e2 w2 ⟨v2,rfl,hR,hb⟩;obtain ⟨B0,d0,rfl,hd0,hC0⟩:=row_C hR;have HC0:=Aside0.mk (And.intro hC0 hd0);have HB2:=Aside0.mk (below_step HB1.out hb);clear hR hb hC0 hd0) | (go_at_call 35;(with_reducible refine (paints_calls A1 c1 q 2 l1 w2 (Kd.C_below HR1.out.1 HB2.out) HR1.out.2 HA.out.p1).mono ?_);rintro e3 w3 ⟨v3,rfl,hR,hb⟩;obtain ⟨B1,d1,rfl,hd1,hC1⟩:=row_C hR;have HC1:=Aside0.mk (And.intro hC1 hd1);have HC0':=Aside0.mk (Kd.C_below HC0.out.1 hb);have HB3:=Aside0.mk (below_step HB2.out hb);clear hR hb hC1 hd1) | (go_at_call 35;(with_reducible refine (paints_calls A2 c2 r 3 l2 w3 (Kd.C_below HR2.out.1 HB3.out) HR2.out.2 HA.out.p2).mono ?_);rintro e4 w4 ⟨v4,rfl,hR,hb⟩;obtain ⟨B2,d2,rfl,hd2,hC2⟩:=row_C hR;have HC2:=Aside0.mk (And.intro hC2 hd2);have HC0'':=Aside0.mk (Kd.C_below HC0'.out hb);have HC1':=Aside0.mk (Kd.C_below HC1.out.1 hb);have HB4:=Aside0.mk (below_step HB3.out hb);clear hR hb hC2 hd2))
 obtain ⟨w5,hw5⟩:∃ W,W = w4.alloc (Obj.cells #[.slice B0 l0.length d0,.slice B1 l1.length d1,.slice B2 l2.length d2] 67):=⟨_,rfl⟩
 obtain ⟨g,hgn⟩:∃ g,g = w4.heap.size:=⟨_,rfl⟩
 have HG:Aside0 (w5.heap[g]? = some (.cells #[.slice B0 l0.length d0,.slice B1 l1.length d1,.slice B2 l2.length d2] 67 (0,0))):=⟨by rw [hw5,hgn];exact blk_new w4 _⟩
 have hb5:Below w4.heap.size w4 w5:=by rw [hw5];exact below_alloc (Below.refl _ _) _
 have HL0:=Aside0.mk (And.intro (Kd.C_below HC0''.out hb5) HC0.out.2)
 have HL1:=Aside0.mk (And.intro (Kd.C_below HC1'.out hb5) HC1.out.2)
 have HL2:=Aside0.mk (And.intro (Kd.C_below HC2.out.1 hb5) HC2.out.2)
 have HB5:=Aside0.mk (below_step HB4.out hb5)
 rw [← hw5,← hgn]
 clear hw5 hgn hb5 HB1 HB2 HB3 HB4 HC0 HC1 HC2 HC0' HC0'' HC1' HR0 HR1 HR2
 go_wp2_with (fail)
 go_loopg [10,32] 3 (fun n v10 v32 wr=>∃ (j:Int) (cur:List S128),v32 = .int .i64 j ∧ Aside0 ((n:Int) + j = 3 ∧ 0 ≤ j) ∧ Aside0 (joinsF k ([l0,l1,l2].drop j.toNat) cur = some one) ∧ Aside0 (ReadsL wr v10 cur) ∧ Aside0 (Below w5.heap.size w5 wr))
 case atStart=>exact ⟨0,_,rfl,⟨rfl,Int.le_refl _⟩,⟨HA.out.j1⟩,⟨ReadsL.nil _⟩,⟨Below.refl _ _⟩⟩
 case round =>
  obtain ⟨j,cur,rfl,HI,HJ,HRD,HB⟩:=hrel
  obtain ⟨A,c,rfl,hc,hC⟩:=HRD.out
  have HCU:=Aside0.mk (And.intro (hC) hc)
  have hg0:wr.cell? ⟨g,0,none⟩ = some (.slice B0 l0.length d0):=(blk_cell ((HB.out.block g (blk_lt HG.out)).trans HG.out) 0).trans rfl
  have hg1:wr.cell? ⟨g,1,none⟩ = some (.slice B1 l1.length d1):=(blk_cell ((HB.out.block g (blk_lt HG.out)).trans HG.out) 1).trans rfl
  have hg2:wr.cell? ⟨g,2,none⟩ = some (.slice B2 l2.length d2):=(blk_cell ((HB.out.block g (blk_lt HG.out)).trans HG.out) 2).trans rfl
  clear hc hC HRD
  obtain ⟨hj0,hj3⟩:0 ≤ j ∧ j ≤ 3:=⟨HI.out.2,by have:=HI.out;omega⟩
  by_cases hlt:j < 3
  ·obtain rfl | rfl | rfl:j = 0 ∨ j = 1 ∨ j = 2:=by omega
   ·obtain ⟨nx,hn1,hn2⟩:=joins_step (x:=l0) (r:=[l1,l2]) HJ.out
    have HN1:=Aside0.mk hn1
    have HN2:=Aside0.mk hn2
    obtain ⟨gl,hgl⟩:∃ gl,gk = gl + 1:=⟨gk - 1,by have:=HI.out;omega⟩
    have hgk:gk = 3:=by have:=HI.out;omega
    subst hgk
    clear hgl gl
    clear hn1 hn2 HJ
    go_wp2_with (go_at_call 36;(with_reducible refine (replica_Join.calls k A c cur B0 d0 l0 nx 0 wr HCU.out.1 HCU.out.2 (Kd.C_below HL0.out.1 HB.out) HL0.out.2 HN1.out).mono ?_);rintro e6 w6 ⟨v6,rfl,hR,hb⟩;have HR6:=Aside0.mk (row_C hR);have HB6:=Aside0.mk (below_step HB.out hb);clear hR hb)
    go_roundg 2
    case measure=>omega
    case rel=>exact ⟨1,nx,rfl,⟨by omega,by omega⟩,HN2,HR6,HB6⟩
   ·obtain ⟨nx,hn1,hn2⟩:=joins_step (x:=l1) (r:=[l2]) HJ.out
    have HN1:=Aside0.mk hn1
    have HN2:=Aside0.mk hn2
    obtain ⟨gl,hgl⟩:∃ gl,gk = gl + 1:=⟨gk - 1,by have:=HI.out;omega⟩
    have hgk:gk = 2:=by have:=HI.out;omega
    subst hgk
    clear hgl gl
    clear hn1 hn2 HJ
    go_wp2_with (go_at_call 36;(with_reducible refine (replica_Join.calls k A c cur B1 d1 l1 nx 0 wr HCU.out.1 HCU.out.2 (Kd.C_below HL1.out.1 HB.out) HL1.out.2 HN1.out).mono ?_);rintro e6 w6 ⟨v6,rfl,hR,hb⟩;have HR6:=Aside0.mk (row_C hR);have HB6:=Aside0.mk (below_step HB.out hb);clear hR hb)
    go_roundg 1
    case measure=>omega
    case rel=>exact ⟨2,nx,rfl,⟨by omega,by omega⟩,HN2,HR6,HB6⟩
   ·obtain ⟨nx,hn1,hn2⟩:=joins_step (x:=l2) (r:=[]) HJ.out
    have HN1:=Aside0.mk hn1
    have HN2:=Aside0.mk hn2
    obtain ⟨gl,hgl⟩:∃ gl,gk = gl + 1:=⟨gk - 1,by have:=HI.out;omega⟩
    have hgk:gk = 1:=by have:=HI.out;omega
    subst hgk
    clear hgl gl
    clear hn1 hn2 HJ
    go_wp2_with (go_at_call 36;(with_reducible refine (replica_Join.calls k A c cur B2 d2 l2 nx 0 wr HCU.out.1 HCU.out.2 (Kd.C_below HL2.out.1 HB.out) HL2.out.2 HN1.out).mono ?_);rintro e6 w6 ⟨v6,rfl,hR,hb⟩;have HR6:=Aside0.mk (row_C hR);have HB6:=Aside0.mk (below_step HB.out hb);clear hR hb)
    go_roundg 0
    case measure=>omega
    case rel=>exact ⟨3,nx,rfl,⟨by omega,by omega⟩,HN2,HR6,HB6⟩
  ·obtain rfl:j = 3:=by omega
   have HX:Aside0 (cur = one):=⟨Option.some.inj HJ.out⟩
   have hx:=HX.out
   subst hx
   clear HJ HI HX hj0 hj3 hlt
   go_wp2_with (go_at_call 20;(with_reducible refine (chanceryref1_Within.calls which 0 5 kk _ HA.out.within).mono ?_);rintro e7 w7 ⟨rfl,hd⟩;have HB7:=Aside0.mk (below_step HB.out hd.below);have HO7:=Aside0.mk (And.intro (Kd.C_below HCU.out.1 hd.below) HCU.out.2);have HG7:=Aside0.mk ((HB7.out.block g (blk_lt HG.out)).trans HG.out);clear hd)
   clear HCU HB hg0 hg1 hg2
   have HKK:=Aside0.mk (And.intro HA.out.k0 HA.out.k5)
   go_loopg [11,48] 6 (fun n v11 v48 wx=>∃ (j:Nat) (cu2:List S128),v48 = .int .i64 (j:Int) ∧ Aside0 (n + j = 6) ∧ Aside0 (joinsF k (((List.range 6).map (partL l0 l1 l2 kk)).drop j) cu2 = some two1) ∧ Aside0 (ReadsL wx v11 cu2) ∧ Aside0 (Below w7.heap.size w7 wx))
   case atStart=>exact ⟨0,_,rfl,⟨rfl⟩,⟨HA.out.j2⟩,⟨ReadsL.nil _⟩,⟨Below.refl _ _⟩⟩
   case round =>
    obtain ⟨j,cu2,rfl,HI2,HJ2,HRD2,HB2⟩:=hrel
    obtain ⟨A2_,c2_,rfl,hc2_,hC2_⟩:=HRD2.out
    have HCU:=Aside0.mk (And.intro hC2_ hc2_)
    have HBR:=Aside0.mk (below_step HB7.out HB2.out)
    clear HRD2 hC2_ hc2_
    by_cases hlt:j < 6
    rotate_left
    ·have g1:decide ((j:Int) < 6) = false:=decide_eq_false (by omega)
     have g2:decide (j < 6) = false:=decide_eq_false hlt
     have HX:Aside0 (cu2 = two1):=⟨by have h1:=HJ2.out;rw [List.drop_eq_nil_of_le (by simp;omega)] at h1;exact Option.some.inj h1⟩
     have hx:=HX.out
     subst hx
     clear HJ2 HI2 HX hlt
     go_wp2_with (fail)
     go_loopg [11,80] 3 (fun n v11 v80 wx=>∃ (j:Int) (cu3:List S128),v80 = .int .i64 j ∧ Aside0 ((n:Int) + j = 3 ∧ 0 ≤ j) ∧ Aside0 (joins2F k ([l2,l1,l0].drop j.toNat) cu3 = some two) ∧ Aside0 (ReadsL wx v11 cu3) ∧ Aside0 (Below w7.heap.size w7 wx))
     case atStart=>exact ⟨0,_,rfl,⟨rfl,Int.le_refl _⟩,⟨HA.out.j3⟩,⟨⟨_,_,rfl,HCU.out.2,HCU.out.1⟩⟩,HB2⟩
     case round =>
      clear HCU HB2 HBR
      obtain ⟨j,cu3,rfl,HI3,HJ3,HRD3,HB3⟩:=hrel
      obtain ⟨A3_,c3_,rfl,hc3_,hC3_⟩:=HRD3.out
      have HCU3:=Aside0.mk (And.intro hC3_ hc3_)
      have HBR:=Aside0.mk (below_step HB7.out HB3.out)
      have hg0:wr.cell? ⟨g,0,none⟩ = some (.slice B0 l0.length d0):=(blk_cell ((HBR.out.block g (blk_lt HG.out)).trans HG.out) 0).trans rfl
      have hg1:wr.cell? ⟨g,1,none⟩ = some (.slice B1 l1.length d1):=(blk_cell ((HBR.out.block g (blk_lt HG.out)).trans HG.out) 1).trans rfl
      have hg2:wr.cell? ⟨g,2,none⟩ = some (.slice B2 l2.length d2):=(blk_cell ((HBR.out.block g (blk_lt HG.out)).trans HG.out) 2).trans rfl
      clear HRD3 hC3_ hc3_
      obtain ⟨hj0,hj3⟩:0 ≤ j ∧ j ≤ 3:=⟨HI3.out.2,by have:=HI3.out;omega⟩
      by_cases hlt:j < 3
      ·obtain rfl | rfl | rfl:j = 0 ∨ j = 1 ∨ j = 2:=by omega
       ·obtain ⟨nx,hn1,hn2⟩:=joins2_step (x:=l2) (r:=[l1,l0]) HJ3.out
        have HN1:=Aside0.mk hn1
        have HN2:=Aside0.mk hn2
        have hgk:gk = 3:=by have:=HI3.out;omega
        subst hgk
        clear hn1 hn2 HJ3
        go_wp2_with (go_at_call 36;(with_reducible refine (replica_Join.calls k B2 d2 l2 A3_ c3_ cu3 nx 0 wr (Kd.C_below HL2.out.1 HBR.out) HL2.out.2 HCU3.out.1 HCU3.out.2 HN1.out).mono ?_);rintro e6 w8 ⟨v6,rfl,hR,hb⟩;have HR6:=Aside0.mk (row_C hR);have HB8:=Aside0.mk (below_step HB3.out hb);clear hR hb)
        go_roundg 2
        case measure=>omega
        case rel=>exact ⟨1,nx,rfl,⟨by omega,by omega⟩,HN2,HR6,HB8⟩
       ·obtain ⟨nx,hn1,hn2⟩:=joins2_step (x:=l1) (r:=[l0]) HJ3.out
        have HN1:=Aside0.mk hn1
        have HN2:=Aside0.mk hn2
        have hgk:gk = 2:=by have:=HI3.out;omega
        subst hgk
        clear hn1 hn2 HJ3
        go_wp2_with (go_at_call 36;(with_reducible refine (replica_Join.calls k B1 d1 l1 A3_ c3_ cu3 nx 0 wr (Kd.C_below HL1.out.1 HBR.out) HL1.out.2 HCU3.out.1 HCU3.out.2 HN1.out).mono ?_);rintro e6 w8 ⟨v6,rfl,hR,hb⟩;have HR6:=Aside0.mk (row_C hR);have HB8:=Aside0.mk (below_step HB3.out hb);clear hR hb)
        go_roundg 1
        case measure=>omega
        case rel=>exact ⟨2,nx,rfl,⟨by omega,by omega⟩,HN2,HR6,HB8⟩
       ·obtain ⟨nx,hn1,hn2⟩:=joins2_step (x:=l0) (r:=[]) HJ3.out
        have HN1:=Aside0.mk hn1
        have HN2:=Aside0.mk hn2
        have hgk:gk = 1:=by have:=HI3.out;omega
        subst hgk
        clear hn1 hn2 HJ3
        go_wp2_with (go_at_call 36;(with_reducible refine (replica_Join.calls k B0 d0 l0 A3_ c3_ cu3 nx 0 wr (Kd.C_below HL0.out.1 HBR.out) HL0.out.2 HCU3.out.1 HCU3.out.2 HN1.out).mono ?_);rintro e6 w8 ⟨v6,rfl,hR,hb⟩;have HR6:=Aside0.mk (row_C hR);have HB8:=Aside0.mk (below_step HB3.out hb);clear hR hb)
        go_roundg 0
        case measure=>omega
        case rel=>exact ⟨3,nx,rfl,⟨by omega,by omega⟩,HN2,HR6,HB8⟩
      ·obtain rfl:j = 3:=by omega
       have HX:Aside0 (cu3 = two):=⟨Option.some.inj HJ3.out⟩
       have hx:=HX.out
       subst hx
       have HO9:=Aside0.mk (And.intro (Kd.C_below HO7.out.1 HB3.out) HO7.out.2)
       clear HJ3 HI3 HX hj0 hj3 hlt hg0 hg1 hg2 HO7 HG HL0 HL1 HL2 HG7
       go_wp2_with (first | (go_at_call 37;(with_reducible refine (replica_Items.calls k A c cur a 0 _ HO9.out.1 HO9.out.2 HA.out.i1).mono ?_);rintro e8 w9 ⟨v8,rfl,hN,hb⟩;obtain ⟨IA,ia,rfl,hia,hIA⟩:=Kd.N_reads hN;have HIA:=Aside0.mk (And.intro hIA hia);have HO10:=Aside0.mk (Kd.C_below HO9.out.1 hb);have HU10:=Aside0.mk (Kd.C_below HCU3.out.1 hb);have HB10:=Aside0.mk (below_step HBR.out hb);clear hN hIA hia hb) | (go_at_call 37;(with_reducible refine (replica_Items.calls k A3_ c3_ cu3 b 0 _ HU10.out HCU3.out.2 HA.out.i2).mono ?_);rintro e9 w10 ⟨v9,rfl,hN,hb⟩;obtain ⟨IB,ib,rfl,hib,hIB⟩:=Kd.N_reads hN;have HIB:=Aside0.mk (And.intro hIB hib);have HO11:=Aside0.mk (Kd.C_below HO10.out hb);have HU11:=Aside0.mk (Kd.C_below HU10.out hb);have HIA11:=Aside0.mk (Kd.C_below HIA.out.1 hb);have HB11:=Aside0.mk (below_step HB10.out hb);clear hN hIB hib hb) | (go_at_call 38;(with_reducible refine (chanceryref1_SameOps.calls k A c cur A3_ c3_ cu3 true _ HO11.out HO9.out.2 HU11.out HCU3.out.2 HA.out.s1).mono ?_);rintro e10 w11 ⟨rfl,hd⟩;have HIA12:=Aside0.mk (Kd.C_below HIA11.out hd.below);have HIB12:=Aside0.mk (Kd.C_below HIB.out.1 hd.below);have HB12:=Aside0.mk (below_step HB11.out hd.below);clear hd) | (go_at_call 39;(with_reducible refine (chanceryref1_SameItems.calls k IA ia a IB ib b true _ HIA12.out HIA.out.2 HIB12.out HIB.out.2 HA.out.s2).mono ?_);rintro e11 w12 ⟨rfl,hb⟩;have HB13:=Aside0.mk (below_step HB12.out hb);clear hb))
       go_ret
       exact ⟨rfl,below_then HB5.out HB5.out.size HB13.out⟩
    have hk0:=HKK.out.1
    have hk5:=HKK.out.2
    have g1:decide ((j:Int) < 6) = true:=decide_eq_true (by omega)
    have g2:decide (j < 6) = true:=decide_eq_true hlt
    have HWK:Aside0 (wrap64 ((j:Int) + 1) = (j:Int) + 1):=⟨by unfold wrap64;omega⟩
    obtain ⟨gl,rfl⟩:∃ gl,gk = gl + 1:=⟨gk - 1,by have:=HI2.out;omega⟩
    obtain ⟨hT,hT0,hT3⟩:=idx3 (kk:=kk) (j:=j) hk0 hk5 hlt
    obtain ⟨SB,SD,hSC,hSD,hcell⟩:=sel_C (g:=g) (And.intro (Kd.C_below HL0.out.1 HBR.out) HL0.out.2) (And.intro (Kd.C_below HL1.out.1 HBR.out) HL1.out.2) (And.intro (Kd.C_below HL2.out.1 HBR.out) HL2.out.2) ((HBR.out.block g (blk_lt HG.out)).trans HG.out) hT0 hT3
    obtain ⟨J,hJ⟩:∃ J,J = (kk * 5 + (j:Int) * (1 + kk % 2)) % 3:=⟨_,rfl⟩
    rw [← hJ] at hT hT0 hT3 hSC hSD hcell
    obtain ⟨X,hX⟩:∃ X,X = sel3 l0 l1 l2 J:=⟨_,rfl⟩
    have HXE:Aside0 (partX l0 l1 l2 kk j = X):=⟨by rw [hX,hJ];rfl⟩
    rw [← hX] at hSC hSD hcell
    have HXC:=Aside0.mk (And.intro hSC hSD)
    have HPL:Aside0 (partL l0 l1 l2 kk j = if j % 2 = 0 then X.drop (X.length / 2) else X):=⟨by unfold partL;rw [HXE.out]⟩
    clear hJ hX hSC hSD
    go_upto_region 19 with (fail)
    clear hcell hT hT0 hT3
    by_cases hpar:j % 2 = 0
    ·skip
     have t1:((j:Int) % 2 == 0) = true:=by simp;omega
     have t2:(j % 2 == 0) = true:=by simpa using hpar
     have HPE:Aside0 (partL l0 l1 l2 kk j = X.drop (X.length / 2)):=⟨by rw [HPL.out,if_pos hpar]⟩
     obtain ⟨SB',SD',hcut,hC',hD'⟩:=cut128 HXC.out.1 HXC.out.2
     obtain ⟨Y,hY⟩:∃ Y,Y = X.drop (X.length / 2):=⟨_,rfl⟩
     simp only [← hY] at hcut hC' hD' HPE
     clear hY
     have whl:wrap64 ((X.length:Int) / 2) = (X.length:Int) / 2:=by have:=HXC.out.1.2.1;unfold wrap64;omega
     obtain ⟨nx,hn1,hn2⟩:=joins_step (by rw [range_drop _ j hlt,HPE.out] at HJ2;exact HJ2.out)
     have HN1:=Aside0.mk hn1
     have HN2:=Aside0.mk hn2
     have HCP:=Aside0.mk (And.intro hC' hD')
     clear hn1 hn2 HJ2 hpar hC' hD' HXC HPL HPE HXE
     go_wp2_with (go_at_call 36;(with_reducible refine (replica_Join.calls k A2_ c2_ cu2 SB' SD' Y nx 0 wr HCU.out.1 HCU.out.2 HCP.out.1 HCP.out.2 HN1.out).mono ?_);rintro e6 w8 ⟨v6,rfl,hR,hb⟩;have HR6:=Aside0.mk (row_C hR);have HB8:=Aside0.mk (below_step HB2.out hb);clear hR hb)
     have wk:=HWK.out
     go_roundg gl
     case measure=>omega
     case rel=>exact ⟨j + 1,nx,by simp [wk],⟨by have:=HI2.out;omega⟩,HN2,HR6,HB8⟩
    ·skip
     have t1:((j:Int) % 2 == 0) = false:=by simp;omega
     have t2:(j % 2 == 0) = false:=by simpa using hpar
     have HPE:Aside0 (partL l0 l1 l2 kk j = X):=⟨by rw [HPL.out,if_neg hpar]⟩
     obtain ⟨nx,hn1,hn2⟩:=joins_step (by rw [range_drop _ j hlt,HPE.out] at HJ2;exact HJ2.out)
     have HN1:=Aside0.mk hn1
     have HN2:=Aside0.mk hn2
     clear hn1 hn2 HJ2 hpar HPL HPE HXE
     go_wp2_with (go_at_call 36;(with_reducible refine (replica_Join.calls k A2_ c2_ cu2 SB SD X nx 0 wr HCU.out.1 HCU.out.2 HXC.out.1 HXC.out.2 HN1.out).mono ?_);rintro e6 w8 ⟨v6,rfl,hR,hb⟩;have HR6:=Aside0.mk (row_C hR);have HB8:=Aside0.mk (below_step HB2.out hb);clear hR hb)
     have wk:=HWK.out
     go_roundg gl
     case measure=>omega
     case rel=>exact ⟨j + 1,nx,by simp [wk],⟨by have:=HI2.out;omega⟩,HN2,HR6,HB8⟩
end Go.Proofs.Ytlcodfjlbhjkbaa.PDelta
end
section
namespace Go.Proofs.Ytlcodfjlbhjkbaa.PDelta
open Go.RowKit Go.Proofs.YtlcodfjlbhjkbaaW.PrintWords Go.Proofs.YtlcodfjlbhjkbaaW.PrintLast Go.Proofs.YtlcodfjlbhjkbaaW.PrintMore
open Go.RowKit Go.Proofs.YtlcodfjlbhjkbaaW.PrintWords Go.Proofs.YtlcodfjlbhjkbaaW.PrintLast Go.Proofs.YtlcodfjlbhjkbaaW.PrintMore
open Go.RowKit Go.Proofs.YtlcodfjlbhjkbaaW.PrintWords Go.Proofs.YtlcodfjlbhjkbaaW.PrintLast Go.Proofs.YtlcodfjlbhjkbaaW.PrintMore
open Go.RowKit Go.Proofs.YtlcodfjlbhjkbaaW.PrintWords Go.Proofs.YtlcodfjlbhjkbaaW.PrintLast Go.Proofs.YtlcodfjlbhjkbaaW.PrintMore
open Go.RowKit Go.Proofs.YtlcodfjlbhjkbaaW.PrintWords Go.Proofs.YtlcodfjlbhjkbaaW.PrintLast Go.Proofs.YtlcodfjlbhjkbaaW.PrintMore
open Go.RowKit Go.Proofs.YtlcodfjlbhjkbaaW.PrintWords Go.Proofs.YtlcodfjlbhjkbaaW.PrintLast Go.Proofs.YtlcodfjlbhjkbaaW.PrintMore
end Go.Proofs.Ytlcodfjlbhjkbaa.PDelta
end
section
namespace Go.Proofs.Ytlcodfjlbhjkbaa.PDelta
open Go.RowKit Go.Maps Go.Sort Go.Proofs.YtlcodfjlbhjkbaaW.PrintWords Go.Proofs.YtlcodfjlbhjkbaaW.PrintLast Go.Proofs.YtlcodfjlbhjkbaaW.PrintMore
structure Good (U l:List S128):Prop where
 sub:∀ z ∈ l,z ∈ U
 st:l.Pairwise stLt
section
variable {U:List S128}
theorem Good.nil:Good U []:=⟨(fun z hz=>by cases hz),.nil⟩
theorem Good.merge (hU:OneSt U) {a b:List S128} (ga:Good U a) (gb:Good U b):Good U (mergeS a b) :=
 ⟨fun z hz=>((mergeS_mem hU a b ga.sub gb.sub z).1 hz).elim (ga.sub z) (gb.sub z),mergeS_sorted hU a b ga.sub gb.sub ga.st gb.st⟩
theorem Good.drop {l:List S128} (h:Good U l) (m:Nat):Good U (l.drop m):=⟨fun z hz=>h.sub z (List.mem_of_mem_drop hz),h.st.drop⟩
theorem join_ev (hU:OneSt U) (hV:∀ o ∈ U,OpV o) {a b:List S128} (ga:Good U a) (gb:Good U b) (hl:a.length + b.length ≤ 1000000):Ev (fun k=>replica_Join.f k a b) (mergeS a b,0):=by
 have h1:=dcheck_ev ga.st (fun o ho=>hV o (ga.sub o ho)) (by omega)
 have h2:=dcheck_ev gb.st (fun o ho=>hV o (gb.sub o ho)) (by omega)
 have h3:=both_l0 hU a b ga.sub gb.sub [] (by simp only [List.length_nil];omega)
 unfold replica_Join.f
 exact Ev.bind h1 (Ev.congr (fun k=>if_pos rfl) (Ev.bind h2 (Ev.congr (fun k=>if_pos rfl) (Ev.bind h3 (Ev.now _)))))
theorem joins_ev (hU:OneSt U) (hV:∀ o ∈ U,OpV o):∀ (xs:List (List S128)) (cur:List S128),(∀ x ∈ xs,Good U x ∧ x.length ≤ 12) → Good U cur → cur.length + 12 * xs.length ≤ 1000000 →
 ∃ one,Ev (fun k=>joinsF k xs cur) one ∧ Good U one ∧ one.length ≤ cur.length + 12 * xs.length ∧ ∀ z,z ∈ one ↔ z ∈ cur ∨ ∃ x ∈ xs,z ∈ x
 | [],cur,_,gc,_=>⟨cur,Ev.now cur,gc,by simp,fun z=>by simp⟩
 | x :: r,cur,hx,gc,hl=>by
  obtain ⟨gx,hx12⟩:=hx x List.mem_cons_self
  simp only [List.length_cons] at hl ⊢
  have hm:=mergeS_len cur x
  obtain ⟨one,h1,h2,h3,h4⟩:=joins_ev hU hV r (mergeS cur x) (fun y hy=>hx y (List.mem_cons_of_mem _ hy)) (Good.merge hU gc gx) (by omega)
  refine ⟨one,Ev.bind (join_ev hU hV gc gx (by omega)) (Ev.congr (fun k=>if_pos rfl) h1),h2,by omega,fun z=>?_⟩
  rw [h4,mergeS_mem hU cur x gc.sub gx.sub]
  simp only [List.mem_cons,exists_eq_or_imp,or_assoc]
theorem joins2_ev (hU:OneSt U) (hV:∀ o ∈ U,OpV o):∀ (xs:List (List S128)) (cur:List S128),(∀ x ∈ xs,Good U x ∧ x.length ≤ 12) → Good U cur → cur.length + 12 * xs.length ≤ 1000000 →
 ∃ one,Ev (fun k=>joins2F k xs cur) one ∧ Good U one ∧ one.length ≤ cur.length + 12 * xs.length ∧ ∀ z,z ∈ one ↔ z ∈ cur ∨ ∃ x ∈ xs,z ∈ x
 | [],cur,_,gc,_=>⟨cur,Ev.now cur,gc,by simp,fun z=>by simp⟩
 | x :: r,cur,hx,gc,hl=>by
  obtain ⟨gx,hx12⟩:=hx x List.mem_cons_self
  simp only [List.length_cons] at hl ⊢
  have hm:=mergeS_len x cur
  obtain ⟨one,h1,h2,h3,h4⟩:=joins2_ev hU hV r (mergeS x cur) (fun y hy=>hx y (List.mem_cons_of_mem _ hy)) (Good.merge hU gx gc) (by omega)
  refine ⟨one,Ev.bind (join_ev hU hV gx gc (by omega)) (Ev.congr (fun k=>if_pos rfl) h1),h2,by omega,fun z=>?_⟩
  rw [h4,mergeS_mem hU x cur gx.sub gc.sub]
  simp only [List.mem_cons,exists_eq_or_imp]
  constructor
  ·rintro ((h | h) | h)
   ·exact .inr (.inl h)
   ·exact .inl h
   ·exact .inr (.inr h)
  ·rintro (h | h | h)
   ·exact .inl (.inr h)
   ·exact .inl (.inl h)
   ·exact .inr h
end
theorem roll_ev (raw:List Int) (u:Nat) {n:Int} (hn:1 ≤ n) (hn2:n ≤ 1000):∃ x,rollF raw u n = some x ∧ 0 ≤ x ∧ x < n:=by
 have:∃ x,rollF raw u n = some x:=by
  unfold rollF
  split
  ·exact ⟨_,rfl⟩
  ·rw [show wrap64 (n - 1) = n - 1 by unfold wrap64;omega]
   obtain ⟨r,hr,_⟩:=within_ev (wrap64 (rd raw ((u % raw.length:Nat):Int) + (((u + 1) / raw.length:Nat):Int))) (n - 1) (by omega) (by omega)
   exact ⟨r,hr⟩
 obtain ⟨x,hx⟩:=this
 exact ⟨x,hx,roll_range hn hn2 hx⟩
theorem one_name {b:UInt8} (h:chOK True (b.toNat:Int)):NameOK ⟨#[b]⟩:=by
 refine ⟨Nat.le_refl 1,(show 1 ≤ 24 by decide),fun i h0 h1=>?_⟩
 have:i = 0:=by have:(ByteArray.size ⟨#[b]⟩:Int) = 1:=rfl;omega
 subst this
 have e:bt ⟨#[b]⟩ 0 = (b.toNat:Int):=rfl
 rw [e]
 simpa using h
theorem one_val {b:UInt8} (h:32 ≤ (b.toNat:Int) ∧ (b.toNat:Int) ≤ 126):ValOK ⟨#[b]⟩:=by
 refine ⟨Nat.le_refl 1,(show 1 ≤ 200 by decide),fun i h0 h1=>?_⟩
 have:i = 0:=by have:(ByteArray.size ⟨#[b]⟩:Int) = 1:=rfl;omega
 subst this
 exact h
theorem xy_ok {d:Int} (h0:0 ≤ d) (h1:d < 2):NameOK (xyS d):=by
 obtain rfl | rfl:d = 0 ∨ d = 1:=by omega
 ·exact one_name (b:=120) (by simp [chOK])
 ·exact one_name (b:=121) (by simp [chOK])
theorem no_ok {d:Int} (h0:0 ≤ d) (h1:d < 3):noS d = ⟨#[]⟩ ∨ ValOK (noS d):=by
 obtain rfl | rfl | rfl:d = 0 ∨ d = 1 ∨ d = 2:=by omega
 ·exact .inl rfl
 ·exact .inr (one_val (b:=49) (by decide))
 ·exact .inr (one_val (b:=50) (by decide))
theorem pl_ok {d:Int} (h0:0 ≤ d) (h1:d < 3):PlaceOK (plS d):=by
 obtain rfl | rfl | rfl:d = 0 ∨ d = 1 ∨ d = 2:=by omega
 ·exact Ev.of (fun k=>replica_Place.mono _ k) (k:=6) (by kernel_rfl)
 ·exact Ev.of (fun k=>replica_Place.mono _ k) (k:=6) (by kernel_rfl)
 ·exact Ev.of (fun k=>replica_Place.mono _ k) (k:=6) (by kernel_rfl)
theorem paint_some (raw:List Int) {site:Int} (hs:0 ≤ site ∧ site ≤ 1000) {i:Nat} (hi:i < 12) (u:Nat):∃ o u',paintF raw site i u = some (o,u') ∧ OpV o ∧ o.f1 = site ∧ 1 + 2 * (i:Int) ≤ o.f0 ∧ o.f0 ≤ 2 + 2 * (i:Int) ∧ (o.f3 ≤ 6) ∧ o.f4 ≤ 6:=by
 unfold paintF
 obtain ⟨a,ha,a0,a1⟩:=roll_ev raw u (n:=2) (by omega) (by omega)
 obtain ⟨b,hb,b0,b1⟩:=roll_ev raw (rollU raw u) (n:=6) (by omega) (by omega)
 obtain ⟨c,hc,c0,c1⟩:=roll_ev raw (rollU raw (rollU raw u)) (n:=3) (by omega) (by omega)
 rw [ha,hb,hc]
 simp only [Option.bind_some]
 by_cases h:c = 0
 ·rw [if_pos h]
  obtain ⟨d,hd,d0,d1⟩:=roll_ev raw (rollU raw (rollU raw (rollU raw u))) (n:=2) (by omega) (by omega)
  obtain ⟨e,he,e0,e1⟩:=roll_ev raw (rollU raw (rollU raw (rollU raw (rollU raw u)))) (n:=3) (by omega) (by omega)
  rw [hd,he]
  simp only [Option.bind_some]
  exact ⟨_,_,rfl,⟨by simp only;omega,hs,by simp only;omega,.inr ⟨rfl,rfl,rfl,xy_ok d0 d1,no_ok e0 e1⟩⟩,rfl,by simp only;omega,by simp only;omega,by simp only;omega,by simp only;omega⟩
 ·rw [if_neg h]
  obtain ⟨d,hd,d0,d1⟩:=roll_ev raw (rollU raw (rollU raw (rollU raw u))) (n:=8) (by omega) (by omega)
  obtain ⟨e,he,e0,e1⟩:=roll_ev raw (rollU raw (rollU raw (rollU raw (rollU raw u)))) (n:=3) (by omega) (by omega)
  rw [hd,he]
  simp only [Option.bind_some]
  exact ⟨_,_,rfl,⟨by simp only;omega,hs,by simp only;omega,.inl ⟨rfl,rfl,rfl,by simp only;omega,by simp only;omega,pl_ok e0 e1⟩⟩,rfl,by simp only;omega,by simp only;omega,by simp only;omega,by simp only;omega⟩
theorem paintsL_some (raw:List Int) {site:Int} (hs:0 ≤ site ∧ site ≤ 1000):∀ (n i u:Nat) (out:List S128),i + n ≤ 12 → out.length = i → out.Pairwise stLt → (∀ o ∈ out,OpV o ∧ o.f1 = site ∧ o.f0 ≤ 2 * (i:Int)) →
 ∃ r,paintsL raw site n i u out = some r ∧ r.length = i + n ∧ r.Pairwise stLt ∧ ∀ o ∈ r,OpV o ∧ o.f1 = site
 | 0,i,u,out,hi,hl,hp,ho=>⟨out,rfl,by omega,hp,fun o h=>⟨(ho o h).1,(ho o h).2.1⟩⟩
 | n + 1,i,u,out,hi,hl,hp,ho=>by
  obtain ⟨o,u',h1,h2,h3,h4,h5,_⟩:=paint_some raw hs (i:=i) (by omega) u
  obtain ⟨r,h6,h7,h8,h9⟩:=paintsL_some raw hs n (i + 1) u' (out ++ [o]) (by omega) (by rw [List.length_append,hl];rfl) (by
   rw [List.pairwise_append]
   refine ⟨hp,List.pairwise_singleton _ _,fun x hx y hy=>?_⟩
   obtain rfl:y = o:=by simpa using hy
   have:=(ho x hx).2.2
   exact .inl (by omega)) (fun x hx=>by
   rcases List.mem_append.1 hx with hx | hx
   ·obtain ⟨a,b,c⟩:=ho x hx
    exact ⟨a,b,by omega⟩
   ·obtain rfl:x = o:=by simpa using hx
    exact ⟨h2,h3,by omega⟩)
  refine ⟨r,?_,by omega,h8,h9⟩
  rw [paintsL,h1]
  exact h6
theorem paints_some (raw:List Int) {site:Int} (hs:0 ≤ site ∧ site ≤ 1000):∃ r,paintsF raw site = some r ∧ r.length ≤ 12 ∧ r.Pairwise stLt ∧ ∀ o ∈ r,OpV o ∧ o.f1 = site:=by
 obtain ⟨r,h1,h2,h3,h4⟩:=paintsL_some raw hs (min raw.length 12) 0 0 [] (by omega) rfl .nil (fun o h=>by cases h)
 exact ⟨r,h1,by omega,h3,h4⟩
theorem play_keys (P:Int → Prop) (k:Nat):∀ (l:List S128) (b bE:Brd),playF k l b = some bE → (∀ o ∈ l,P o.f3) → (∀ x ∈ b.its,P x.f0) → ∀ x ∈ bE.its,P x.f0
 | [],b,bE,h,_,hb=>by cases h;exact hb
 | o :: l,b,bE,h,hl,hb=>by
  have hl':∀ o ∈ l,P o.f3:=fun x hx=>hl x (List.mem_cons_of_mem _ hx)
  unfold playF at h
  split at h
  ·obtain ⟨r,hr,h⟩:=Option.bind_eq_some_iff.1 h
   exact play_keys P k l _ bE h hl' hb
  ·obtain ⟨t,ht,h⟩:=Option.bind_eq_some_iff.1 h
   split at h
   ·exact play_keys P k l b bE h hl' hb
   ·refine play_keys P k l _ bE h hl' (fun x hx=>?_)
    rcases List.mem_append.1 hx with hx | hx
    ·exact hb x (List.mem_filter.1 hx).1
    ·obtain rfl:x = _:=by simpa using hx
     exact hl o List.mem_cons_self
theorem i64_wf {x:Int} (h0:-9223372036854775808 ≤ x) (h1:x ≤ 9223372036854775807):(Lit.int .i64 x).wf = true:=by
 have e1:IntKind.i64.min = -9223372036854775808:=by rfl
 have e2:IntKind.i64.max = 9223372036854775807:=by rfl
 simp [Lit.wf,e1,e2,h0,h1]
theorem OpV.ok {o:S128} (h:OpV o):OpOK o:=by
 have h1:=h.item
 refine ⟨i64_wf (by omega) (by omega),?_⟩
 rcases h.kind with ⟨_,_,_,h4,h5,_⟩ | ⟨_,h4,_⟩
 ·exact i64_wf (by omega) (by omega)
 ·rw [h4];decide
theorem drawn_ev {l:List S128} (hv:∀ o ∈ l,OpV o) (hl:l.length ≤ 1073741824):∃ k b,playF k l ⟨[],[]⟩ = some b ∧ BOK b ∧ b.its.length ≤ l.length ∧ (∀ i,(b.atD i).length ≤ l.length) ∧ replica_Raw.f l = some ((orderL b).map (fillF b)):=by
 obtain ⟨k,b,h1,h2,h3,h4,h5⟩:=items_some l (fun o ho=>by have:=(hv o ho).item;omega) hl
 refine ⟨k,b,h1,h2,h3,h4,rawis_f ⟨k,b,h1,h2,by omega,?_,fun o ho=>(hv o ho).ok,rfl⟩⟩
 exact play_keys (fun i=>(Lit.int .i64 i).wf = true) k l _ b h1 (fun o ho=>(hv o ho).ok.1) (fun x hx=>by cases hx)
theorem items_ev {l:List S128} (hs:l.Pairwise stLt) (hv:∀ o ∈ l,OpV o) (hl:l.length ≤ 1073741824) {r:List S87} (h:replica_Raw.f l = some r):Ev (fun k=>replica_Items.f k l) (r,0):=by
 unfold replica_Items.f
 exact Ev.bind (dcheck_ev hs hv hl) (Ev.congr (fun k=>by rw [if_pos rfl,h];rfl) (Ev.now _))
theorem ops_l0 (l:List S128) (hl:l.length ≤ 1073741824) (d:Nat):∀ i:Nat,i + d = l.length → Ev (fun k=>chanceryref1_SameOps.l0 k l l (l.length:Int) (i:Int)) true:=by
 induction d with
 | zero =>
  intro i hi
  refine Ev.step (f:=fun _=>some true) (fun k=>?_) (Ev.now true)
  rw [chanceryref1_SameOps.l0,if_neg (by omega)]
 | succ d ih =>
  intro i hi
  refine Ev.step (fun k=>?_) (ih (i + 1) (by omega))
  rw [chanceryref1_SameOps.l0,if_pos (by omega),if_pos (by omega),if_pos (by omega),if_pos (by omega),op_same,if_neg (by decide),show wrap64 ((i:Int) + 1) = ((i + 1:Nat):Int) by unfold wrap64;omega]
theorem ops_ev (l:List S128) (hl:l.length ≤ 1073741824):Ev (fun k=>chanceryref1_SameOps.f k l l) true:=Ev.congr (fun k=>if_pos rfl) (ops_l0 l hl l.length 0 (by omega))
theorem item_ev (x:S87) (hx:x.f3.length ≤ 1099511627776):Ev (fun k=>chanceryref1_SameItem.f k x.f0 x.f1 x.f2 x.f3 x.f0 x.f1 x.f2 x.f3) true:=by
 refine Ev.congr (fun k=>?_) (same_attrs_ev x.f3 hx)
 rw [chanceryref1_SameItem.f,if_pos rfl,if_pos rfl,if_pos rfl]
 cases chanceryref1_SameAttrs.f k x.f3 x.f3 <;> rfl
theorem its_l0 (l:List S87) (hx:∀ x ∈ l,x.f3.length ≤ 1099511627776) (hl:l.length ≤ 1073741824) (d:Nat):∀ i:Nat,i + d = l.length → Ev (fun k=>chanceryref1_SameItems.l0 k l l (l.length:Int) (i:Int)) true:=by
 induction d with
 | zero =>
  intro i hi
  refine Ev.step (f:=fun _=>some true) (fun k=>?_) (Ev.now true)
  rw [chanceryref1_SameItems.l0,if_neg (by omega)]
 | succ d ih =>
  intro i hi
  have hm:rd_T87 l (i:Int) ∈ l:=by
   have:rd_T87 l (i:Int) = l[i]'(by omega):=by rw [rd_T87,List.getD_eq_getElem?_getD];simp [show i < l.length by omega]
   rw [this]
   exact List.getElem_mem _
  refine Ev.step (fun k=>?_) (Ev.bind (f:=fun k t=>if t = true then chanceryref1_SameItems.l0 k l l (l.length:Int) ((i + 1:Nat):Int) else some false) (item_ev _ (hx _ hm)) (Ev.congr (fun k=>if_pos rfl) (ih (i + 1) (by omega))))
  rw [chanceryref1_SameItems.l0,if_pos (by omega),if_pos (by omega),if_pos (by omega),if_pos (by omega),show wrap64 ((i:Int) + 1) = ((i + 1:Nat):Int) by unfold wrap64;omega]
theorem its_ev (l:List S87) (hx:∀ x ∈ l,x.f3.length ≤ 1099511627776) (hl:l.length ≤ 1073741824):Ev (fun k=>chanceryref1_SameItems.f k l l) true:=Ev.congr (fun k=>if_pos rfl) (its_l0 l hx hl l.length 0 (by omega))
theorem order_len {b:Brd} (h:BOK b):(orderL b).length ≤ 2 * b.its.length:=by
 unfold orderL restF
 have h1:=tree_len h (b.its.length + 1) 0
 have h2:=List.length_filter_le (fun x:S87=>!isIn (shownL b) x.f0) (sortB ltN b.its)
 have h3:=(sortB_perm ltN b.its).length_eq
 rw [List.length_append]
 unfold shownL at *
 omega
def drawOps:List S128:=[⟨1,1,0,5,0,⟨#[98]⟩,⟨#[]⟩,⟨#[]⟩⟩,⟨2,1,0,6,5,⟨#[98]⟩,⟨#[]⟩,⟨#[]⟩⟩]
theorem drawOps_ok:(∀ o ∈ drawOps,OpV o) ∧ drawOps.Pairwise stLt:=by
 have hp:PlaceOK ⟨#[98]⟩:=pl_ok (d:=0) (by omega) (by omega)
 refine ⟨fun o ho=>?_,?_⟩
 ·simp only [drawOps,List.mem_cons,List.not_mem_nil,or_false] at ho
  rcases ho with rfl | rfl
  ·exact ⟨by decide,by decide,by decide,.inl ⟨rfl,rfl,rfl,by decide,by decide,hp⟩⟩
  ·exact ⟨by decide,by decide,by decide,.inl ⟨rfl,rfl,rfl,by decide,by decide,hp⟩⟩
 ·simp [drawOps,stLt]
theorem draws_ev:Ev (fun k=>chancerykeep1_draws.f k) true:=by
 obtain ⟨k,b,h1,h2,h3,h4,h5⟩:=drawn_ev drawOps_ok.1 (by decide)
 have hi:=items_ev drawOps_ok.2 drawOps_ok.1 (by decide) h5
 have hb:b = ⟨[⟨5,0,⟨#[98]⟩,[]⟩,⟨6,5,⟨#[98]⟩,[]⟩],[]⟩:=by
  have e:playF 5 drawOps ⟨[],[]⟩ = some ⟨[⟨5,0,⟨#[98]⟩,[]⟩,⟨6,5,⟨#[98]⟩,[]⟩],[]⟩:=by kernel_rfl
  have:=(play_le h1 (Nat.le_max_left k 5)).symm.trans (play_le e (Nat.le_max_right k 5))
  exact Option.some.inj this
 subst hb
 refine Ev.bind hi (Ev.congr (f:=fun _=>some true) (fun k=>?_) (Ev.now true))
 kernel_rfl
theorem stLt.total {l:List S128} (h:l.Pairwise stLt) {x y:S128} (hx:x ∈ l) (hy:y ∈ l):x = y ∨ stLt x y ∨ stLt y x:=by
 induction l with
 | nil=>cases hx
 | cons z r ih =>
  rw [List.pairwise_cons] at h
  rcases List.mem_cons.1 hx with rfl | hx1
  ·rcases List.mem_cons.1 hy with rfl | hy1
   ·exact .inl rfl
   ·exact .inr (.inl (h.1 y hy1))
  ·rcases List.mem_cons.1 hy with rfl | hy1
   ·exact .inr (.inr (h.1 x hx1))
   ·exact ih h.2 hx1 hy1
theorem ev_at2 {α β:Type} {g:Nat → Option α} {f:Nat → Option β} {a:α} {b:β} (h:Ev g a) (k:Ev f b):∃ K,∀ n,K ≤ n → g n = some a ∧ f n = some b:=by
 obtain ⟨K,h⟩:=h
 obtain ⟨L,k⟩:=k
 exact ⟨K + L,fun n hn=>⟨h n (by omega),k n (by omega)⟩⟩
theorem site_apart {x y:S128} (h:x.f1 ≠ y.f1):stLt x y ∨ stLt y x:=by unfold stLt;omega
theorem any_law (p q r:List Int) (which:Int):∃ k l0 l1 l2 kk one two1 two a b,AnyAt k p q r which l0 l1 l2 kk one two1 two a b:=by
 obtain ⟨l0,e0,n0,s0,v0⟩:=paints_some p (site:=1) (by omega)
 obtain ⟨l1,e1,n1,s1,v1⟩:=paints_some q (site:=2) (by omega)
 obtain ⟨l2,e2,n2,s2,v2⟩:=paints_some r (site:=3) (by omega)
 obtain ⟨kk,ek,k0,k5⟩:=within_ev which 5 (by omega) (by omega)
 obtain ⟨U,hU⟩:∃ U,U = l0 ++ l1 ++ l2:=⟨_,rfl⟩
 have mU:∀ z,z ∈ U ↔ z ∈ l0 ∨ z ∈ l1 ∨ z ∈ l2:=fun z=>by rw [hU];simp [or_assoc]
 have hV:∀ o ∈ U,OpV o:=fun o ho=>by
  rcases (mU o).1 ho with h | h | h
  ·exact (v0 o h).1
  ·exact (v1 o h).1
  ·exact (v2 o h).1
 have hO:OneSt U:=by
  intro x hx y hy h1 h2
  have key:∀ {l:List S128},l.Pairwise stLt → x ∈ l → y ∈ l → x = y:=fun hs a b=>(stLt.total hs a b).elim id (fun h=>h.elim (fun h=>absurd h h1) (fun h=>absurd h h2))
  have far:x.f1 ≠ y.f1 → x = y:=fun h=>(site_apart h).elim (fun h=>absurd h h1) (fun h=>absurd h h2)
  rcases (mU x).1 hx with a | a | a <;> rcases (mU y).1 hy with b | b | b
  ·exact key s0 a b
  ·exact far (by rw [(v0 x a).2,(v1 y b).2];decide)
  ·exact far (by rw [(v0 x a).2,(v2 y b).2];decide)
  ·exact far (by rw [(v1 x a).2,(v0 y b).2];decide)
  ·exact key s1 a b
  ·exact far (by rw [(v1 x a).2,(v2 y b).2];decide)
  ·exact far (by rw [(v2 x a).2,(v0 y b).2];decide)
  ·exact far (by rw [(v2 x a).2,(v1 y b).2];decide)
  ·exact key s2 a b
 have g0:Good U l0:=⟨fun z hz=>(mU z).2 (.inl hz),s0⟩
 have g1:Good U l1:=⟨fun z hz=>(mU z).2 (.inr (.inl hz)),s1⟩
 have g2:Good U l2:=⟨fun z hz=>(mU z).2 (.inr (.inr hz)),s2⟩
 have gsel:∀ J,Good U (sel3 l0 l1 l2 J) ∧ (sel3 l0 l1 l2 J).length ≤ 12:=fun J=>by
  unfold sel3
  split
  ·exact ⟨g0,n0⟩
  ·split
   ·exact ⟨g1,n1⟩
   ·exact ⟨g2,n2⟩
 have gpart:∀ i,Good U (partL l0 l1 l2 kk i) ∧ (partL l0 l1 l2 kk i).length ≤ 12:=fun i=>by
  have h:=gsel ((kk * 5 + (i:Int) * (1 + kk % 2)) % 3)
  unfold partL
  change Good U (partX l0 l1 l2 kk i) ∧ (partX l0 l1 l2 kk i).length ≤ 12 at h
  split
  ·exact ⟨h.1.drop _,by rw [List.length_drop];omega⟩
  ·exact h
 obtain ⟨one,o1,o2,o3,o4⟩:=joins_ev hO hV [l0,l1,l2] [] (fun x hx=>by
  simp only [List.mem_cons,List.not_mem_nil,or_false] at hx
  rcases hx with rfl | rfl | rfl
  ·exact ⟨g0,n0⟩
  ·exact ⟨g1,n1⟩
  ·exact ⟨g2,n2⟩) Good.nil (by simp)
 obtain ⟨two1,t1,t2,t3,t4⟩:=joins_ev hO hV ((List.range 6).map (partL l0 l1 l2 kk)) [] (fun x hx=>by
  obtain ⟨i,_,rfl⟩:=List.mem_map.1 hx
  exact gpart i) Good.nil (by simp)
 obtain ⟨two,w1,w2,w3,w4⟩:=joins2_ev hO hV [l2,l1,l0] two1 (fun x hx=>by
  simp only [List.mem_cons,List.not_mem_nil,or_false] at hx
  rcases hx with rfl | rfl | rfl
  ·exact ⟨g2,n2⟩
  ·exact ⟨g1,n1⟩
  ·exact ⟨g0,n0⟩) t2 (by simp at t3 ⊢;omega)
 have m1:∀ z,z ∈ one ↔ z ∈ U:=fun z=>by
  rw [o4,mU]
  simp
 have m2:∀ z,z ∈ two ↔ z ∈ U:=fun z=>by
  rw [w4,mU]
  simp only [List.mem_cons,List.not_mem_nil,or_false,exists_eq_or_imp,exists_eq_left]
  constructor
  ·rintro (h | h | h | h)
   ·exact (mU z).1 (t2.sub z h)
   ·exact .inr (.inr h)
   ·exact .inr (.inl h)
   ·exact .inl h
  ·rintro (h | h | h)
   ·exact .inr (.inr (.inr h))
   ·exact .inr (.inr (.inl h))
   ·exact .inr (.inl h)
 obtain rfl:one = two:=sorted_ext one two o2.st w2.st (fun z=>(m1 z).trans (m2 z).symm)
 have hlen:one.length ≤ 1000:=by simp at o3;omega
 have hv1:∀ o ∈ one,OpV o:=fun o ho=>hV o (o2.sub o ho)
 obtain ⟨k,b,h1,h2,h3,h4,h5⟩:=drawn_ev hv1 (by omega)
 have hi:=items_ev o2.st hv1 (by omega) h5
 have hs1:=ops_ev one (by omega)
 have hol:=order_len h2
 have hs2:=its_ev ((orderL b).map (fillF b)) (fun x hx=>by
  obtain ⟨y,_,rfl⟩:=List.mem_map.1 hx
  have:=h4 y.f0
  show (b.atD y.f0).length ≤ _
  omega) (by rw [List.length_map];omega)
 obtain ⟨K1,f1⟩:=ev_at2 draws_ev o1
 obtain ⟨K2,f2⟩:=ev_at2 t1 w1
 obtain ⟨K3,f3⟩:=ev_at2 hi hs1
 obtain ⟨K4,f4⟩:=hs2
 exact ⟨K1 + K2 + K3 + K4,l0,l1,l2,kk,one,two1,one,_,_,⟨(f1 _ (by omega)).1,e0,e1,e2,ek,k0,k5,(f1 _ (by omega)).2,(f2 _ (by omega)).1,(f2 _ (by omega)).2,(f3 _ (by omega)).1,(f3 _ (by omega)).1,(f3 _ (by omega)).2,f4 _ (by omega)⟩⟩
theorem any_walk (a0 a1 a2:Option Addr) (len0 cap0 len1 cap1 len2 cap2:Nat) (z0 z1 z2:List Int) (x3:Int) (w:World)
 (w0:(a0 = none ∧ len0 = 0 ∧ cap0 = 0 ∧ z0 = []) ∨ ∃ x,a0 = some x ∧ len0 ≤ cap0 ∧ cap0 ≤ maxLen ∧ z0.length = cap0 ∧ (∀ i,i < z0.length → w.cell? (x.add i) = some (.int .i64 (z0.getD i 0))) ∧ ∀ n ∈ z0,(Lit.int .i64 n).wf = true)
 (w1:(a1 = none ∧ len1 = 0 ∧ cap1 = 0 ∧ z1 = []) ∨ ∃ x,a1 = some x ∧ len1 ≤ cap1 ∧ cap1 ≤ maxLen ∧ z1.length = cap1 ∧ (∀ i,i < z1.length → w.cell? (x.add i) = some (.int .i64 (z1.getD i 0))) ∧ ∀ n ∈ z1,(Lit.int .i64 n).wf = true)
 (w2:(a2 = none ∧ len2 = 0 ∧ cap2 = 0 ∧ z2 = []) ∨ ∃ x,a2 = some x ∧ len2 ≤ cap2 ∧ cap2 ≤ maxLen ∧ z2.length = cap2 ∧ (∀ i,i < z2.length → w.cell? (x.add i) = some (.int .i64 (z2.getD i 0))) ∧ ∀ n ∈ z2,(Lit.int .i64 n).wf = true) :
 Calls Try.prog 8 #[.slice a0 len0 cap0,.slice a1 len1 cap1,.slice a2 len2 cap2,.int .i64 x3] w fun e w'=>e = .returned (.bool true) ∧ Below w.heap.size w w':=by
 obtain ⟨l0,rfl,hr0,hm0,hw0,hc0⟩:=ReadsInt.ofRowC w0
 obtain ⟨l1,rfl,hr1,hm1,hw1,hc1⟩:=ReadsInt.ofRowC w1
 obtain ⟨l2,rfl,hr2,hm2,hw2,hc2⟩:=ReadsInt.ofRowC w2
 obtain ⟨k,_,_,_,_,_,_,_,_,_,h⟩:=any_law l0 l1 l2 x3
 exact any_calls k _ _ l0 _ _ l1 _ _ l2 x3 w (Kd.C_of_reads (d:=(0:Int)) (h1:=fun _=>rfl) hr0) hc0 (Kd.C_of_reads (d:=(0:Int)) (h1:=fun _=>rfl) hr1) hc1 (Kd.C_of_reads (d:=(0:Int)) (h1:=fun _=>rfl) hr2) hc2 h
end Go.Proofs.Ytlcodfjlbhjkbaa.PDelta
end

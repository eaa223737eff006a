/- Parts of the proof of One: nothing is claimed here by itself. -/
import Derived.Test.YtlcodfjlbhjkbaaKOne4
import Derived.StillTailTactics
set_option linter.unusedVariables false
set_option linter.unusedSimpArgs false
section
namespace Go.Proofs.Ytlcodfjlbhjkbaa.PDelta
open Go.RowKit Go.Proofs.YtlcodfjlbhjkbaaW.PrintWords Go.Proofs.YtlcodfjlbhjkbaaW.PrintLast Go.Proofs.YtlcodfjlbhjkbaaW.PrintMore
set_option maxRecDepth 100000 in
set_option maxHeartbeats 16000000 in
theorem elem_calls (w0:World) (g:Nat) (nd:Int) (out:List S26) (bad:List S56) (vI uI:Value) (w:World) (x:S26) (AX:Option Addr) (cx:Nat) (A:Option Addr) (ca:Nat) (a:List S91) (B:Option Addr) (cb:Nat) (b:List S91) (cutA cutB:Bool) (h:JoD w0 g nd out bad vI uI w)
 (hx:Kd.C k91 w0 AX x.f2.length x.f2) (hcx:x.f2.length ≤ cx) (ha:Kd.C k91 w0 A a.length a) (hca:a.length ≤ ca) (hb:Kd.C k91 w0 B b.length b) (hcb:b.length ≤ cb)
 (hl:out.length ≤ 1073741824) (hlb:bad.length + a.length ≤ 1073741824) (hlx:x.f2.length ≤ 268435456) (hla:a.length ≤ 268435456) (hlbb:b.length ≤ 268435456) :
 Calls Try.prog 97 #[.pointer (some ⟨g,0,none⟩),.agg #[.int .i64 x.f0,.int .i64 x.f1,.slice AX x.f2.length cx],.slice A a.length ca,.slice B b.length cb,.bool cutA,.bool cutB] w fun e w'=>e = .returned (.tuple #[]) ∧ ∃ v u,JoD w0 g nd (elemO out x a b cutA cutB) (elemB nd out bad a b cutA cutB) v u w':=by
 have hu26:=Try.underlying26
 have hu91:=Try.underlying91
 have hu164:=Try.underlying164
 have hu56:=Try.underlying56
 obtain ⟨AI,cI,rfl⟩:=Kd.N_slice h.rv
 obtain ⟨BU,mU,rfl⟩:=Kd.N_slice h.ru
 have HJ0:=Aside0.mk h
 have HX:=Aside0.mk hx
 have HA:=Aside0.mk ha
 have HB:=Aside0.mk hb
 have HCX:=Aside0.mk hcx
 have HCA:=Aside0.mk hca
 have HCB:=Aside0.mk hcb
 have HL:=Aside0.mk hl
 have HLB:=Aside0.mk hlb
 have HLX:=Aside0.mk hlx
 have HLA:=Aside0.mk hla
 have HLBB:=Aside0.mk hlbb
 have HVX0:Aside0 (some w.heap.size ≠ (Value.slice AI out.length cI).ownBlock):=⟨fun e=>Nat.lt_irrefl _ (Kd.N_lt h.rv _ e.symm)⟩
 clear h hx ha hb hcx hca hcb hl hlb hlx hla hlbb
 have HJ1:=Aside0.mk (HJ0.out.toX (.cells #[.int .i64 x.f0,.int .i64 x.f1,.slice AX x.f2.length cx] 26 (0,0)))
 have HGX1:Aside0 ((w.alloc (.cells #[.int .i64 x.f0,.int .i64 x.f1,.slice AX x.f2.length cx] 26 (0,0))).heap[w.heap.size]? = some (.cells #[.int .i64 x.f0,.int .i64 x.f1,.slice AX x.f2.length cx] 26 (0,0))):=⟨blk_new w _⟩
 go_enter Try.func97,Try.ntmps97
 go_upto_region 1 with (fail)
 obtain ⟨w2,hw2⟩:∃ W,W = w.alloc (Obj.cells #[.int .i64 x.f0,.int .i64 x.f1,.slice AX x.f2.length cx] 26 (0,0)):=⟨_,rfl⟩
 obtain ⟨gx,hgx⟩:∃ k,k = w.heap.size:=⟨_,rfl⟩
 rw [← hw2,← hgx] at HJ1 HGX1
 rw [← hgx] at HVX0
 rw [← hw2,← hgx]
 clear hw2 hgx HJ0
 have hc1:w2.cell? ⟨g,1,none⟩ = some (.slice AI out.length cI):=(blk_cell HJ1.out.blk 1).trans rfl
 go_upto_region 2 with (fail)
 clear hc1
 go_cut [24] (fun v24 wx=>v24 = .bool (cutA || cutB) ∧ Aside0 (JoX w0 g gx nd out bad (.slice AI out.length cI) (.slice BU bad.length mU) wx) ∧ Aside0 (wx.heap[gx]? = some (.cells #[.int .i64 x.f0,.int .i64 x.f1,.slice AX x.f2.length cx] 26 (0,0))))
 case first =>
  cases cutA <;> cases cutB <;> (go_wp2;go_meet;(case rel=>exact ⟨rfl,HJ1,HGX1⟩))
 case rest =>
 clear HJ1 HGX1
 obtain ⟨rfl,HJ1,HGX1⟩:=hcut
 by_cases hcut:(cutA || cutB) = true
 ·rw [hcut]
  have HCUT:=Aside0.mk hcut
  clear hcut
  have HO:Aside0 (elemO out x a b cutA cutB = out):=⟨if_pos HCUT.out⟩
  go_upto_region 3 with (fail)
  go_cut [40] (fun v40 wx=>v40 = .bool (cutC a b cutA cutB) ∧ Aside0 (JoX w0 g gx nd out bad (.slice AI out.length cI) (.slice BU bad.length mU) wx) ∧ Aside0 (wx.heap[gx]? = some (.cells #[.int .i64 x.f0,.int .i64 x.f1,.slice AX x.f2.length cx] 26 (0,0))))
  case first =>
   obtain ⟨ta,hta⟩:∃ t,decide (0 < a.length) = t:=⟨_,rfl⟩
   obtain ⟨tb,htb⟩:∃ t,decide (0 < b.length) = t:=⟨_,rfl⟩
   have HQ:Aside0 (cutC a b cutA cutB = ((!cutA && ta) || (!cutB && tb))):=⟨by rw [cutC,hta,htb]⟩
   cases ta <;> cases tb <;> cases cutA <;> cases cutB <;> (go_wp2;go_meet;(case rel=>exact ⟨by rw [HQ.out];rfl,HJ1,HGX1⟩))
  case rest =>
  clear HJ1 HGX1
  obtain ⟨rfl,HJ1,HGX1⟩:=hcut
  cases hcc:cutC a b cutA cutB with
  | false =>
   have HBD:Aside0 (elemB nd out bad a b cutA cutB = bad):=⟨by rw [elemB,if_pos HCUT.out,hcc,if_neg (by decide)]⟩
   clear hcc
   go_wp2
   refine bodyPost_ret (results_none (by rfl) _ _ _) rfl ?_
   exact ⟨rfl,_,_,by rw [HO.out,HBD.out];exact HJ1.out.toD⟩
  | true =>
   have HBD:Aside0 (elemB nd out bad a b cutA cutB = bad ++ [⟨1,nd,(out.length:Int),(out.length:Int),⟨#[]⟩⟩]):=⟨by rw [elemB,if_pos HCUT.out,hcc,if_pos rfl]⟩
   clear hcc
   have HJD:=Aside0.mk HJ1.out.drew
   have HGX:=Aside0.mk (blk_drew HGX1.out)
   go_upto_region 4 with (fail)
   refine start_ (n:=17) (S:=fun w'=>w'.cell? ⟨g,0,none⟩ = some (.int .i64 nd) ∧ w'.cell? ⟨g,1,none⟩ = some (.slice AI out.length cI) ∧ w'.cell? ⟨g,2,none⟩ = some (.slice BU bad.length mU)) (ds:=[16]) #[false,false,false,false,false,false,false,false,false,false,false,false,false,false,false,false,false] (by kernel_rfl) rfl rfl ⟨((blk_cell HJD.out.blk 0).trans rfl),((blk_cell HJD.out.blk 1).trans rfl),((blk_cell HJD.out.blk 2).trans rfl)⟩ (fun hHeld=>?_)
   refine pure_ (i:=0) (N:=some 41) (v:=?_) (a':=?_) (bm 1 17) rfl rfl (by kernel_rfl) (fun _ _ _ h=>h) (Or.inl ⟨by rfl,?_⟩) ?_ ?_
   rotate_left
   ·intro w'
    go_simp
    with_reducible rfl
   rotate_left
   ·simp only [Act.put,sA,sB,sC,i64_w,i32_w]
    rfl
   refine pure_ (i:=1) (N:=some 42) (v:=?_) (a':=?_) (bm 3 17) rfl rfl (by kernel_rfl) (fun _ _ _ h=>h) (Or.inl ⟨by rfl,?_⟩) ?_ ?_
   rotate_left
   ·intro w'
    go_simp
    with_reducible rfl
   rotate_left
   ·simp only [Act.put,sA,sB,sC,i64_w,i32_w]
    rfl
   refine pure_ (i:=2) (N:=some 43) (v:=?_) (a':=?_) (bm 7 17) rfl rfl (by kernel_rfl) (fun _ _ _ h=>h) (Or.inl ⟨by rfl,?_⟩) ?_ ?_
   rotate_left
   ·intro w'
    go_simp
    with_reducible rfl
   rotate_left
   ·simp only [Act.put,sA,sB,sC,i64_w,i32_w]
    rfl
   refine pure_ (i:=3) (N:=some 44) (v:=?_) (a':=?_) (bm 15 17) rfl rfl (by kernel_rfl) (fun _ _ _ h=>h) (Or.inl ⟨by rfl,?_⟩) ?_ ?_
   rotate_left
   ·intro w'
    go_simp
    with_reducible rfl
   rotate_left
   ·simp only [Act.put,sA,sB,sC,i64_w,i32_w]
    rfl
   refine pure_ (i:=5) (N:=some 46) (v:=?_) (a':=?_) (bm 47 17) rfl rfl (by kernel_rfl) (fun _ _ _ h=>h) (Or.inl ⟨by rfl,?_⟩) ?_ ?_
   rotate_left
   ·intro w'
    go_simp
    with_reducible rfl
   rotate_left
   ·simp only [Act.put,sA,sB,sC,i64_w,i32_w]
    rfl
   refine pure_ (i:=6) (N:=some 47) (v:=?_) (a':=?_) (bm 111 17) rfl rfl (by kernel_rfl) (fun _ _ _ h=>h) (Or.inl ⟨by rfl,?_⟩) ?_ ?_
   rotate_left
   ·intro w'
    go_simp
    with_reducible rfl
   rotate_left
   ·simp only [Act.put,sA,sB,sC,i64_w,i32_w]
    rfl
   refine pure_ (i:=7) (N:=some 48) (v:=?_) (a':=?_) (bm 239 17) rfl rfl (by kernel_rfl) (fun _ _ _ h=>h) (Or.inl ⟨by rfl,?_⟩) ?_ ?_
   rotate_left
   ·intro w'
    go_simp
    with_reducible rfl
   rotate_left
   ·simp only [Act.put,sA,sB,sC,i64_w,i32_w]
    rfl
   refine pure_ (i:=9) (N:=some 50) (v:=?_) (a':=?_) (bm 751 17) rfl rfl (by kernel_rfl) (fun _ _ _ h=>h) (Or.inl ⟨by rfl,?_⟩) ?_ ?_
   rotate_left
   ·intro w'
    go_simp
    with_reducible rfl
   rotate_left
   ·simp only [Act.put,sA,sB,sC,i64_w,i32_w]
    rfl
   refine pure_ (i:=10) (N:=some 51) (v:=?_) (a':=?_) (bm 1775 17) rfl rfl (by kernel_rfl) (fun _ _ _ h=>h) (Or.inl ⟨by rfl,?_⟩) ?_ ?_
   rotate_left
   ·intro w'
    go_simp
    with_reducible rfl
   rotate_left
   ·simp only [Act.put,sA,sB,sC,i64_w,i32_w]
    rfl
   refine take_ (i:=4) (N:=some 45) (v:=?_) (a':=?_) (bm 1791 17) rfl rfl (by kernel_rfl) (fun _ _ _ h=>h) (Or.inl ⟨by rfl,?_⟩) hHeld ?_ ?_
   rotate_left
   ·rintro w' ⟨s0,s1,s2⟩
    go_simp
    with_reducible rfl
   rotate_left
   ·simp only [Act.put,sA,sB,sC,i64_w,i32_w]
    rfl
   refine take_ (i:=8) (N:=some 49) (v:=?_) (a':=?_) (bm 2047 17) rfl rfl (by kernel_rfl) (fun _ _ _ h=>h) (Or.inl ⟨by rfl,?_⟩) hHeld ?_ ?_
   rotate_left
   ·rintro w' ⟨s0,s1,s2⟩
    go_simp
    with_reducible rfl
   rotate_left
   ·simp only [Act.put,sA,sB,sC,i64_w,i32_w]
    rfl
   refine pure_ (i:=11) (N:=some 52) (v:=?_) (a':=?_) (bm 4095 17) rfl rfl (by kernel_rfl) (fun _ _ _ h=>h) (Or.inl ⟨by rfl,?_⟩) ?_ ?_
   rotate_left
   ·intro w'
    go_simp
    with_reducible rfl
   rotate_left
   ·simp only [Act.put,sA,sB,sC,i64_w,i32_w]
    rfl
   refine one_ (i:=12) (N:=some 53) (bm 8191 17) rfl rfl (by kernel_rfl) (by decide) (fun K hK=>?_)
   refine value_ (w1:=?_) (v:=?_) (by rfl) rfl ?_ ?_
   rotate_left 2
   ·go_simp
    constructor
    ·rfl
    ·rfl
   refine hK.out _ _ ⟨((blk_cell (blk_alloc HJD.out.blk _) 0).trans rfl),((blk_cell (blk_alloc HJD.out.blk _) 1).trans rfl),((blk_cell (blk_alloc HJD.out.blk _) 2).trans rfl)⟩ (fun hHeld=>?_)
   clear hK K
   refine norm_ (a':=?_) ?_ ?_
   rotate_left
   ·show Act.put _ (some 53) _ = _
    simp only [Act.put,sA,sB,sC,i64_w,i32_w]
    rfl
   refine one_ (i:=13) (N:=some 54) (bm 16383 17) rfl rfl (by kernel_rfl) (by decide) (fun K hK=>?_)
   refine Kd.N_append_step k56 (w0:=w0) w0.heap.size (by rfl) (.tmp 45) (.tmp 53) 48 56 (.agg #[.int .i64 0,.int .i64 0,.int .i64 0,.int .i64 0,.string ⟨#[]⟩]) 48 rfl Try.underlying48 info56 rfl (by decide) (by decide) _ _ ⟨1,nd,(out.length:Int),(out.length:Int),⟨#[]⟩⟩ [.int .i64 1,.int .i64 nd,.int .i64 (out.length:Int),.int .i64 (out.length:Int),.string ⟨#[]⟩] (fun k=>(k ≠ g ∧ k ≠ gx) ∧ some k ≠ (.slice AI out.length cI:Value).ownBlock) (fun _=>False) (by rfl) (by rfl) (k56_mkF _ _ ⟨1,nd,(out.length:Int),(out.length:Int),⟨#[]⟩⟩) (fun _ hk=>hk.elim) (HJD.out.freshU) HJD.out.ru HJD.out.bel HJD.out.bel.size (by have:=HLB.out;omega) ?_
   intro u1_ w1_ hR1 hB1 hg hat
   obtain ⟨AU,nU,rfl⟩:=Kd.N_slice hR1
   obtain ⟨hb1,hW⟩:=HJD.out.appU hR1 hB1 hg hat
   have HW:=Aside0.mk hW
   have HGX1:=Aside0.mk (blk_grown HGX.out hg (Kd.N_ne HJD.out.ru HGX.out (by decide)))
   have hd2:w1_.cell? ⟨g,2,none⟩ = some (.slice BU bad.length mU):=(blk_cell hb1 2).trans rfl
   have hd0:w1_.cell? ⟨g,0,none⟩ = some (.int .i64 nd):=(blk_cell hb1 0).trans rfl
   have hd1:w1_.cell? ⟨g,1,none⟩ = some (.slice AI out.length cI):=(blk_cell hb1 1).trans rfl
   have hdf:=blk_frozen hb1 2
   clear hR1 hB1 hg hat hb1 hW
   refine hK.out _ _ ⟨hd0,hd1,hd2⟩ (fun hHeld=>?_)
   clear hK K
   refine norm_ (a':=?_) ?_ ?_
   rotate_left
   ·show Act.put _ (some 54) _ = _
    simp only [Act.put,sA,sB,sC,i64_w,i32_w]
    rfl
   refine pure_ (i:=14) (N:=some 55) (v:=?_) (a':=?_) (bm 32767 17) rfl rfl (by kernel_rfl) (fun _ _ _ h=>h) (Or.inl ⟨by rfl,?_⟩) ?_ ?_
   rotate_left
   ·intro w'
    go_simp
    with_reducible rfl
   rotate_left
   ·simp only [Act.put,sA,sB,sC,i64_w,i32_w]
    rfl
   refine pure_ (i:=15) (N:=some 56) (v:=?_) (a':=?_) (bm 65535 17) rfl rfl (by kernel_rfl) (fun _ _ _ h=>h) (Or.inl ⟨by rfl,?_⟩) ?_ ?_
   rotate_left
   ·intro w'
    go_simp
    with_reducible rfl
   rotate_left
   ·simp only [Act.put,sA,sB,sC,i64_w,i32_w]
    rfl
   refine last_ (i:=16) (N:=none) (bm 131071 17) rfl rfl (by kernel_rfl) (by decide) (fun K hK=>?_)
   refine skip_ (w1:=?_) (by rfl) rfl ?_ ?_
   rotate_left
   ·go_simp
    rfl
   refine hK.out _ _ ?_
   clear hK K
   refine done_ (by kernel_rfl) ?_
   go_wp2
   refine bodyPost_ret (results_none (by rfl) _ _ _) rfl ?_
   exact ⟨rfl,_,_,by rw [HO.out,HBD.out];simpa using HW.out.toD⟩
 have hcut2:(cutA || cutB) = false:=Bool.eq_false_iff.mpr hcut
 rw [hcut2]
 have HO:Aside0 (elemO out x a b cutA cutB = out ++ [⟨x.f0,x.f1,mrg rawE (mrg rawE x.f2 b) a⟩]):=⟨if_neg hcut⟩
 have HBD:Aside0 (elemB nd out bad a b cutA cutB = attB nd (out.length:Int) b a bad):=⟨if_neg hcut⟩
 clear hcut hcut2
 go_wp2
 go_loopg [59] a.length (fun m v59 wr=>∃ (i:Nat) (bd:List S56) (u:Value),v59 = .int .i64 (i:Int) ∧ Aside0 (m + i = a.length) ∧ Aside0 (JoX w0 g gx nd out bd (.slice AI out.length cI) u wr) ∧ Aside0 (wr.heap[gx]? = some (.cells #[.int .i64 x.f0,.int .i64 x.f1,.slice AX x.f2.length cx] 26 (0,0))) ∧ Aside0 (bd.length ≤ bad.length + i) ∧ Aside0 (attB nd (out.length:Int) b (a.drop i) bd = attB nd (out.length:Int) b a bad))
 case atStart=>exact ⟨0,bad,_,rfl,⟨rfl⟩,HJ1,HGX1,⟨Nat.le_refl _⟩,⟨rfl⟩⟩
 case round =>
 clear HJ1 HGX1
 obtain ⟨i,bd,u,rfl,HI,HJ1,HGX1,HBL,HAT⟩:=hrel
 by_cases d2:i < a.length
 rotate_left
 ·have g1:decide ((i:Int) < (a.length:Int)) = false:=decide_eq_false (by omega)
  have g1':decide (i < a.length) = false:=decide_eq_false d2
  have HBE:Aside0 (elemB nd out bad a b cutA cutB = bd):=⟨by have h1:=HAT.out;rw [List.drop_eq_nil_of_le (by omega),attB] at h1;rw [HBD.out,← h1]⟩
  clear d2 HAT HBD
  have hq2:wr.cell? ⟨gx,2,none⟩ = some (.slice AX x.f2.length cx):=(blk_cell HGX1.out 2).trans rfl
  have hf2:=blk_frozen HGX1.out 2
  obtain ⟨r1,hr1⟩:∃ r,r = mrg rawE x.f2 b:=⟨_,rfl⟩
  obtain ⟨r2,hr2⟩:∃ r,r = mrg rawE r1 a:=⟨_,rfl⟩
  have HR1E:Aside0 (attr_Raw.f x.f2 b = some r1):=⟨by rw [hr1];exact raw_f (by have:=HLX.out;omega) (by have:=HLBB.out;omega)⟩
  have HR1L:Aside0 (r1.length ≤ 536870912):=⟨by rw [hr1];exact Nat.le_trans (mrg_len _ _ _) (by have:=HLX.out;have:=HLBB.out;omega)⟩
  have HR2E:Aside0 (attr_Raw.f r1 a = some r2):=⟨by rw [hr2];exact raw_f (by have:=HR1L.out;omega) (by have:=HLA.out;omega)⟩
  have HOE:Aside0 (elemO out x a b cutA cutB = out ++ [⟨x.f0,x.f1,r2⟩]):=⟨by rw [HO.out,hr2,hr1]⟩
  clear hr1 hr2 HO
  go_upto_region 13 with (first | (go_at_call 115;go_loud ((with_reducible refine (attr_Raw.calls AX cx x.f2 B cb b r1 wr (Kd.C_below HX.out HJ1.out.bel) HCX.out (Kd.C_below HB.out HJ1.out.bel) HCB.out HR1E.out).mono ?_);rintro e1 w3 ⟨v1,rfl,hR,hb3⟩;obtain ⟨A1,n1,rfl⟩:=Kd.R_slice hR;have HR1:=Aside0.mk (Kd.R_reads' hR);have HJ2:=Aside0.mk (HJ1.out.below hb3);have HGX2:=Aside0.mk (blk_below HGX1.out hb3);clear hR hb3)) | (go_at_call 115;go_loud ((with_reducible refine (attr_Raw.calls A1 n1 r1 A ca a r2 w3 HR1.out.2.2 HR1.out.2.1 (Kd.C_below HA.out HJ2.out.bel) HCA.out HR2E.out).mono ?_);rintro e2 w4 ⟨v2,rfl,hR,hb4⟩;obtain ⟨A2,n2,rfl⟩:=Kd.R_slice hR;have HRR:=Aside0.mk (Kd.R_tight rfl hR);have HJ3:=Aside0.mk (HJ2.out.below hb4);have HGX3:=Aside0.mk (blk_below HGX2.out hb4);have hz2:w4.cell? ⟨gx,2,none⟩ = some (.slice AX x.f2.length cx):=(blk_cell HGX3.out 2).trans rfl;have hzf:=blk_frozen HGX3.out 2;clear hR hb4)))
  clear hq2 hf2 hz2 hzf HJ1 HJ2 HGX1 HGX2
  have HTY:Aside0 (∀ k,some k = (Value.slice A2 r2.length n2).ownBlock → ∃ cells,w4.heap[k]? = some (.cells cells 91 (0,0))):=⟨fun k e=>Kd.R_typed HRR.out k e.symm⟩
  have HNX:Aside0 (∀ k,some k = (Value.slice A2 r2.length n2).ownBlock → k ≠ gx):=⟨fun k e q=>by
   obtain ⟨c,hc⟩:=HTY.out k e
   rw [q,HGX3.out] at hc
   injection hc with hc
   injection hc with _ hc
   exact absurd hc (by decide)⟩
  have HFR:Aside0 (Kd.F k91 w4 (fun k=>some k = (Value.slice A2 r2.length n2).ownBlock) A2 r2.length r2 ∧ r2.length ≤ n2):=⟨⟨Kd.R_F HRR.out,(Kd.R_reads' HRR.out).2.1⟩⟩
  obtain ⟨w5,hw5⟩:∃ W,W = w4.setCell ⟨gx,2,none⟩ (Value.slice A2 r2.length n2):=⟨_,rfl⟩
  have HJ4:=Aside0.mk (HJ3.out.put 2 (Value.slice A2 r2.length n2))
  have HGX4:=Aside0.mk (blk_put HGX3.out 2 (.slice A2 r2.length n2) rfl)
  have HR2':=Aside0.mk (And.intro (Kd.F_far HFR.out.1 (p:=⟨gx,2,none⟩) HNX.out (Value.slice A2 r2.length n2)) HFR.out.2)
  have HOKP':Aside0 (∀ k,some k = (Value.slice A2 r2.length n2).ownBlock → ((k ≠ g ∧ k ≠ gx) ∧ some k ≠ u.ownBlock) ∧ some k ≠ (Value.slice AI out.length cI).ownBlock):=⟨fun k e=>by
   obtain ⟨c,hc⟩:=HTY.out k e
   have ty:∀ {q:Array Value} {t:Nat},w4.heap[k]? = some (.cells q t (0,0)) → t = 91:=fun hq=>by
    rw [hc] at hq
    injection hq with hq
    injection hq with _ hq
    exact hq.symm
   refine ⟨⟨⟨fun q=>?_,HNX.out k e⟩,fun q=>?_⟩,fun q=>?_⟩
   ·rw [q] at ty;exact absurd (ty HJ3.out.blk) (by decide)
   ·obtain ⟨c',hc'⟩:=Kd.N_typed HJ3.out.ru k q.symm
    exact absurd (ty hc') (by decide)
   ·obtain ⟨c',hc'⟩:=Kd.N_typed HJ3.out.rv k q.symm
    exact absurd (ty hc') (by decide)⟩
  rw [← hw5] at HJ4 HGX4 HR2'
  rw [← hw5]
  clear hw5 HJ3 HGX3 HRR HFR HNX HTY
  have HJD:=Aside0.mk HJ4.out.drew
  have HGX:=Aside0.mk (blk_drew HGX4.out)
  have HR2:=Aside0.mk (And.intro (Kd.F_drew HR2'.out.1) HR2'.out.2)
  have HOKP:=HOKP'
  have HVX:=HVX0
  clear HR2' HOKP' HJ4 HGX4
  go_upto_region 13 with (fail)
  refine start_ (n:=11) (S:=fun w'=>w'.cell? ⟨g,1,none⟩ = some (.slice AI out.length cI) ∧ w'.cell? ⟨gx,0,none⟩ = some (.int .i64 x.f0) ∧ w'.cell? ⟨gx,1,none⟩ = some (.int .i64 x.f1) ∧ w'.cell? ⟨gx,2,none⟩ = some (.slice A2 r2.length n2)) (ds:=[10]) #[false,false,false,false,false,false,false,false,false,false,false] (by kernel_rfl) rfl rfl ⟨((blk_cell HJD.out.blk 1).trans rfl),((blk_cell HGX.out 0).trans rfl),((blk_cell HGX.out 1).trans rfl),((blk_cell HGX.out 2).trans rfl)⟩ (fun hHeld=>?_)
  refine pure_ (i:=0) (N:=some 105) (v:=?_) (a':=?_) (bm 1 11) rfl rfl (by kernel_rfl) (fun _ _ _ h=>h) (Or.inl ⟨by rfl,?_⟩) ?_ ?_
  rotate_left
  ·intro w'
   go_simp
   with_reducible rfl
  rotate_left
  ·simp only [Act.put,sA,sB,sC,i64_w,i32_w]
   rfl
  refine pure_ (i:=1) (N:=some 106) (v:=?_) (a':=?_) (bm 3 11) rfl rfl (by kernel_rfl) (fun _ _ _ h=>h) (Or.inl ⟨by rfl,?_⟩) ?_ ?_
  rotate_left
  ·intro w'
   go_simp
   with_reducible rfl
  rotate_left
  ·simp only [Act.put,sA,sB,sC,i64_w,i32_w]
   rfl
  refine pure_ (i:=2) (N:=some 107) (v:=?_) (a':=?_) (bm 7 11) rfl rfl (by kernel_rfl) (fun _ _ _ h=>h) (Or.inl ⟨by rfl,?_⟩) ?_ ?_
  rotate_left
  ·intro w'
   go_simp
   with_reducible rfl
  rotate_left
  ·simp only [Act.put,sA,sB,sC,i64_w,i32_w]
   rfl
  refine pure_ (i:=3) (N:=some 108) (v:=?_) (a':=?_) (bm 15 11) rfl rfl (by kernel_rfl) (fun _ _ _ h=>h) (Or.inl ⟨by rfl,?_⟩) ?_ ?_
  rotate_left
  ·intro w'
   go_simp
   with_reducible rfl
  rotate_left
  ·simp only [Act.put,sA,sB,sC,i64_w,i32_w]
   rfl
  refine take_ (i:=4) (N:=some 109) (v:=?_) (a':=?_) (bm 31 11) rfl rfl (by kernel_rfl) (fun _ _ _ h=>h) (Or.inl ⟨by rfl,?_⟩) hHeld ?_ ?_
  rotate_left
  ·rintro w' ⟨s0,s1,s2,s3⟩
   go_simp
   with_reducible rfl
  rotate_left
  ·simp only [Act.put,sA,sB,sC,i64_w,i32_w]
   rfl
  refine take_ (i:=5) (N:=some 110) (v:=?_) (a':=?_) (bm 63 11) rfl rfl (by kernel_rfl) (fun _ _ _ h=>h) (Or.inl ⟨by rfl,?_⟩) hHeld ?_ ?_
  rotate_left
  ·rintro w' ⟨s0,s1,s2,s3⟩
   go_simp
   with_reducible rfl
  rotate_left
  ·simp only [Act.put,sA,sB,sC,i64_w,i32_w]
   rfl
  refine one_ (i:=6) (N:=some 111) (bm 127 11) rfl rfl (by kernel_rfl) (by decide) (fun K hK=>?_)
  refine value_ (w1:=?_) (v:=?_) (by rfl) rfl ?_ ?_
  rotate_left 2
  ·go_simp
   constructor
   ·rfl
   ·rfl
  refine hK.out _ _ ⟨((blk_cell (blk_alloc HJD.out.blk _) 1).trans rfl),((blk_cell (blk_alloc HGX.out _) 0).trans rfl),((blk_cell (blk_alloc HGX.out _) 1).trans rfl),((blk_cell (blk_alloc HGX.out _) 2).trans rfl)⟩ (fun hHeld=>?_)
  clear hK K
  refine norm_ (a':=?_) ?_ ?_
  rotate_left
  ·show Act.put _ (some 111) _ = _
   simp only [Act.put,sA,sB,sC,i64_w,i32_w]
   rfl
  refine one_ (i:=7) (N:=some 112) (bm 255 11) rfl rfl (by kernel_rfl) (by decide) (fun K hK=>?_)
  refine Kd.N_append_step k26 (w0:=w0) w0.heap.size (by rfl) (.tmp 109) (.tmp 111) 22 26 (.agg #[.int .i64 0,.int .i64 0,.slice none 0 0]) 40 rfl Try.underlying22 info26 rfl (by decide) (by decide) _ out ⟨x.f0,x.f1,r2⟩ [.int .i64 x.f0,.int .i64 x.f1,.slice A2 r2.length n2] (fun k=>(k ≠ g ∧ k ≠ gx) ∧ some k ≠ u.ownBlock) (fun k=>some k = (Value.slice A2 r2.length n2).ownBlock) (by rfl) (by rfl) (k26_mkF _ _ (⟨x.f0,x.f1,r2⟩:S26) HR2.out.2 HR2.out.1) HOKP.out HJD.out.freshV HJD.out.rv HJD.out.bel HJD.out.bel.size (by have:=HL.out;omega) ?_
  intro v1_ w1_ hR1 hB1 hg hat
  obtain ⟨AV,nV,rfl⟩:=Kd.N_slice hR1
  obtain ⟨hb1,hW⟩:=HJD.out.appV hR1 hB1 hg hat
  have HW:=Aside0.mk hW
  have hx0_:w1_.cell? ⟨gx,0,none⟩ = some (.int .i64 x.f0):=(blk_cell (blk_grown HGX.out hg HVX.out) 0).trans rfl
  have hx1_:w1_.cell? ⟨gx,1,none⟩ = some (.int .i64 x.f1):=(blk_cell (blk_grown HGX.out hg HVX.out) 1).trans rfl
  have hx2_:w1_.cell? ⟨gx,2,none⟩ = some (.slice A2 r2.length n2):=(blk_cell (blk_grown HGX.out hg HVX.out) 2).trans rfl
  have hd1:w1_.cell? ⟨g,1,none⟩ = some (.slice AI out.length cI):=(blk_cell hb1 1).trans rfl
  have hdf:=blk_frozen hb1 1
  clear hR1 hB1 hg hat hb1 hW
  refine hK.out _ _ ⟨hd1,hx0_,hx1_,hx2_⟩ (fun hHeld=>?_)
  clear hK K
  refine norm_ (a':=?_) ?_ ?_
  rotate_left
  ·show Act.put _ (some 112) _ = _
   simp only [Act.put,sA,sB,sC,i64_w,i32_w]
   rfl
  refine pure_ (i:=8) (N:=some 113) (v:=?_) (a':=?_) (bm 511 11) rfl rfl (by kernel_rfl) (fun _ _ _ h=>h) (Or.inl ⟨by rfl,?_⟩) ?_ ?_
  rotate_left
  ·intro w'
   go_simp
   with_reducible rfl
  rotate_left
  ·simp only [Act.put,sA,sB,sC,i64_w,i32_w]
   rfl
  refine pure_ (i:=9) (N:=some 114) (v:=?_) (a':=?_) (bm 1023 11) rfl rfl (by kernel_rfl) (fun _ _ _ h=>h) (Or.inl ⟨by rfl,?_⟩) ?_ ?_
  rotate_left
  ·intro w'
   go_simp
   with_reducible rfl
  rotate_left
  ·simp only [Act.put,sA,sB,sC,i64_w,i32_w]
   rfl
  refine last_ (i:=10) (N:=none) (bm 2047 11) rfl rfl (by kernel_rfl) (by decide) (fun K hK=>?_)
  refine skip_ (w1:=?_) (by rfl) rfl ?_ ?_
  rotate_left
  ·go_simp
   rfl
  refine hK.out _ _ ?_
  clear hK K
  refine done_ (by kernel_rfl) ?_
  go_wp2
  go_end0
  exact ⟨rfl,_,_,by rw [HOE.out,HBE.out];simpa using HW.out⟩
 obtain ⟨gl,rfl⟩:∃ gl,gk = gl + 1:=⟨gk - 1,by have:=HI.out;omega⟩
 have g1:decide ((i:Int) < (a.length:Int)) = true:=decide_eq_true (by omega)
 have g1':decide (i < a.length) = true:=decide_eq_true d2
 have q1:(i:Int) < (a.length:Int):=by omega
 obtain ⟨ad0,e0,hx0,hx1⟩:=at_T91 HA.out (i:Int) (by omega) q1
 cases e0
 replace hx0:=(HJ1.out.bel.cell (World.block_lt_of_cell? w0 _ hx0)).trans hx0
 replace hx1:=(HJ1.out.bel.cell (World.block_lt_of_cell? w0 _ hx1)).trans hx1
 simp only [Int.toNat_natCast] at hx0 hx1
 have HWI:Aside0 (wrap64 ((i:Int) + 1) = (i:Int) + 1):=⟨by have:=HLA.out;exact wr64' (by omega) (by omega)⟩
 have hAT:=HAT.out
 rw [drop_T91 a i d2,attB] at hAT
 obtain ⟨c,hc⟩:∃ c,c = rd_T91 a (i:Int):=⟨_,rfl⟩
 rw [← hc] at hx0 hx1 hAT
 have HAT1:=Aside0.mk hAT
 clear hc d2 HAT hAT
 have HJ2:=Aside0.mk (HJ1.out.below (below_alloc (Below.refl _ _) (Obj.cells #[.string c.f0,.string c.f1] 91 (0,0))))
 have HGX2:=Aside0.mk (blk_alloc HGX1.out (Obj.cells #[.string c.f0,.string c.f1] 91 (0,0)))
 have HGC2:Aside0 ((wr.alloc (Obj.cells #[.string c.f0,.string c.f1] 91 (0,0))).heap[wr.heap.size]? = some (.cells #[.string c.f0,.string c.f1] 91 (0,0))):=⟨blk_new wr _⟩
 obtain ⟨w2',hw2⟩:∃ W,W = wr.alloc (Obj.cells #[.string c.f0,.string c.f1] 91 (0,0)):=⟨_,rfl⟩
 obtain ⟨gc,hgc⟩:∃ k,k = wr.heap.size:=⟨_,rfl⟩
 go_upto_region 8 with (fail)
 rw [← hw2] at HJ2 HGX2
 rw [← hw2,← hgc] at HGC2
 rw [← hw2,← hgc]
 clear hw2 hgc hx0 hx1 HJ1 HGX1
 go_upto_region 9 with (go_at_call 136;go_loud ((with_reducible refine (idx_calls B cb b gc c w2' (Kd.C_below HB.out HJ2.out.bel) HCB.out HGC2.out (by have:=HLBB.out;omega)).mono ?_);rintro e1 w3 ⟨rfl,hb3⟩;have HJ3:=Aside0.mk (HJ2.out.below hb3);have HGX3:=Aside0.mk (blk_below HGX2.out hb3);have HGC3:=Aside0.mk (blk_below HGC2.out hb3);clear hb3))
 clear HJ2 HGX2 HGC2
 obtain ⟨tc,htc⟩:∃ t,t = clashB b c:=⟨_,rfl⟩
 rw [← htc] at HAT1
 obtain ⟨ix,hix⟩:∃ z,z = idxP b c:=⟨_,rfl⟩
 rw [← hix]
 have HIX:=Aside0.mk hix
 clear hix
 go_cut [77] (fun v77 wx=>v77 = .bool tc ∧ Aside0 (JoX w0 g gx nd out bd (.slice AI out.length cI) u wx) ∧ Aside0 (wx.heap[gx]? = some (.cells #[.int .i64 x.f0,.int .i64 x.f1,.slice AX x.f2.length cx] 26 (0,0))) ∧ Aside0 (wx.heap[gc]? = some (.cells #[.string c.f0,.string c.f1] 91 (0,0))))
 case first =>
  have hrng:=idx_range b c b.length 0 (by omega)
  rw [clashB,← HIX.out] at htc
  rw [show idxL b c 0 b.length = ix from HIX.out.symm] at hrng
  by_cases hp:0 ≤ ix
  ·have hq:ix < (b.length:Int):=by rcases hrng with h | h <;> omega
   have c1:decide (0 ≤ ix) = true:=decide_eq_true hp
   rw [c1,Bool.true_and] at htc
   obtain ⟨bd0,eb0,hy0,hy1⟩:=at_T91 HB.out ix hp hq
   cases eb0
   replace hy1:=(HJ3.out.bel.cell (World.block_lt_of_cell? w0 _ hy1)).trans hy1
   have hgc1:w3.cell? ⟨gc,1,none⟩ = some (.string c.f1):=(blk_cell HGC3.out 1).trans rfl
   have HTC:=Aside0.mk htc
   clear htc hrng hy0
   go_upto_region 9 with (fail)
   refine start_ (n:=12) (S:=fun w'=>w'.cell? ⟨(bd0.add (ix.toNat * 2)).block,(bd0.add (ix.toNat * 2)).off + 1,none⟩ = some (.string (rd_T91 b ix).f1) ∧ w'.cell? ⟨gc,1,none⟩ = some (.string c.f1)) (ds:=[]) #[false,false,false,false,false,false,false,false,false,false,false,false] (by kernel_rfl) rfl rfl ⟨(((below_drew1 (Below.refl w3.heap.size w3)).cell (World.block_lt_of_cell? w3 _ hy1)).trans hy1),((blk_cell (blk_drew HGC3.out) 1).trans rfl)⟩ (fun hHeld=>?_)
   refine pure_ (i:=0) (N:=some 66) (v:=?_) (a':=?_) (bm 1 12) rfl rfl (by kernel_rfl) (fun _ _ _ h=>h) (Or.inl ⟨by rfl,?_⟩) ?_ ?_
   rotate_left
   ·intro w'
    go_simp
    with_reducible rfl
   rotate_left
   ·simp only [Act.put,sA,sB,sC,i64_w,i32_w]
    rfl
   refine pure_ (i:=1) (N:=some 67) (v:=?_) (a':=?_) (bm 3 12) rfl rfl (by kernel_rfl) (fun _ _ _ h=>h) (Or.inl ⟨by rfl,?_⟩) ?_ ?_
   rotate_left
   ·intro w'
    go_simp
    with_reducible rfl
   rotate_left
   ·simp only [Act.put,sA,sB,sC,i64_w,i32_w]
    rfl
   refine pure_ (i:=2) (N:=some 68) (v:=?_) (a':=?_) (bm 7 12) rfl rfl (by kernel_rfl) (fun _ _ _ h=>h) (Or.inl ⟨by rfl,?_⟩) ?_ ?_
   rotate_left
   ·intro w'
    go_simp
    with_reducible rfl
   rotate_left
   ·simp only [Act.put,sA,sB,sC,i64_w,i32_w]
    rfl
   refine pure_ (i:=3) (N:=some 69) (v:=?_) (a':=?_) (bm 15 12) rfl rfl (by kernel_rfl) (fun _ _ _ h=>h) (Or.inl ⟨by rfl,?_⟩) ?_ ?_
   rotate_left
   ·intro w'
    go_simp
    with_reducible rfl
   rotate_left
   ·simp only [Act.put,sA,sB,sC,i64_w,i32_w]
    rfl
   refine pure_ (i:=4) (N:=some 70) (v:=?_) (a':=?_) (bm 31 12) rfl rfl (by kernel_rfl) (fun _ _ _ h=>h) (Or.inl ⟨by rfl,?_⟩) ?_ ?_
   rotate_left
   ·intro w'
    go_simp
    with_reducible rfl
   rotate_left
   ·simp only [Act.put,sA,sB,sC,i64_w,i32_w]
    rfl
   refine pure_ (i:=5) (N:=some 71) (v:=?_) (a':=?_) (bm 63 12) rfl rfl (by kernel_rfl) (fun _ _ _ h=>h) (Or.inl ⟨by rfl,?_⟩) ?_ ?_
   rotate_left
   ·intro w'
    go_simp
    with_reducible rfl
   rotate_left
   ·simp only [Act.put,sA,sB,sC,i64_w,i32_w]
    rfl
   refine pure_ (i:=6) (N:=some 72) (v:=?_) (a':=?_) (bm 127 12) rfl rfl (by kernel_rfl) (fun _ _ _ h=>h) (Or.inl ⟨by rfl,?_⟩) ?_ ?_
   rotate_left
   ·intro w'
    go_simp
    with_reducible rfl
   rotate_left
   ·simp only [Act.put,sA,sB,sC,i64_w,i32_w]
    rfl
   refine pure_ (i:=8) (N:=some 74) (v:=?_) (a':=?_) (bm 383 12) rfl rfl (by kernel_rfl) (fun _ _ _ h=>h) (Or.inl ⟨by rfl,?_⟩) ?_ ?_
   rotate_left
   ·intro w'
    go_simp
    with_reducible rfl
   rotate_left
   ·simp only [Act.put,sA,sB,sC,i64_w,i32_w]
    rfl
   refine take_ (i:=7) (N:=some 73) (v:=?_) (a':=?_) (bm 511 12) rfl rfl (by kernel_rfl) (fun _ _ _ h=>h) (Or.inl ⟨by rfl,?_⟩) hHeld ?_ ?_
   rotate_left
   ·rintro w' ⟨s0,s1⟩
    go_simp
    with_reducible rfl
   rotate_left
   ·simp only [Act.put,sA,sB,sC,i64_w,i32_w]
    rfl
   refine take_ (i:=9) (N:=some 75) (v:=?_) (a':=?_) (bm 1023 12) rfl rfl (by kernel_rfl) (fun _ _ _ h=>h) (Or.inl ⟨by rfl,?_⟩) hHeld ?_ ?_
   rotate_left
   ·rintro w' ⟨s0,s1⟩
    go_simp
    with_reducible rfl
   rotate_left
   ·simp only [Act.put,sA,sB,sC,i64_w,i32_w]
    rfl
   refine pure_ (i:=10) (N:=some 76) (v:=?_) (a':=?_) (bm 2047 12) rfl rfl (by kernel_rfl) (fun _ _ _ h=>h) (Or.inl ⟨by rfl,?_⟩) ?_ ?_
   rotate_left
   ·intro w'
    go_simp
    with_reducible rfl
   rotate_left
   ·simp only [Act.put,sA,sB,sC,i64_w,i32_w]
    rfl
   refine pure_ (i:=11) (N:=some 77) (v:=?_) (a':=?_) (bm 4095 12) rfl rfl (by kernel_rfl) (fun _ _ _ h=>h) (Or.inl ⟨by rfl,?_⟩) ?_ ?_
   rotate_left
   ·intro w'
    go_simp
    with_reducible rfl
   rotate_left
   ·simp only [Act.put,sA,sB,sC,i64_w,i32_w]
    rfl
   refine done_ (by kernel_rfl) ?_
   go_wp2
   go_meet
   case rel=>exact ⟨by rw [HTC.out];rfl,⟨HJ3.out.drew⟩,⟨blk_drew HGX3.out⟩,⟨blk_drew HGC3.out⟩⟩
  ·have c1:decide (0 ≤ ix) = false:=decide_eq_false hp
   rw [c1,Bool.false_and] at htc
   subst htc
   clear hrng hp
   go_upto_region 9 with (fail)
   refine start_ (n:=12) (S:=fun w'=>True) (ds:=[]) #[false,false,false,false,false,false,false,false,false,false,false,false] (by kernel_rfl) rfl rfl trivial (fun hHeld=>?_)
   refine pure_ (i:=0) (N:=some 66) (v:=?_) (a':=?_) (bm 1 12) rfl rfl (by kernel_rfl) (fun _ _ _ h=>h) (Or.inl ⟨by rfl,?_⟩) ?_ ?_
   rotate_left
   ·intro w'
    go_simp
    with_reducible rfl
   rotate_left
   ·simp only [Act.put,sA,sB,sC,i64_w,i32_w]
    rfl
   refine pure_ (i:=1) (N:=some 67) (v:=?_) (a':=?_) (bm 3 12) rfl rfl (by kernel_rfl) (fun _ _ _ h=>h) (Or.inl ⟨by rfl,?_⟩) ?_ ?_
   rotate_left
   ·intro w'
    go_simp
    with_reducible rfl
   rotate_left
   ·simp only [Act.put,sA,sB,sC,i64_w,i32_w]
    rfl
   refine pure_ (i:=2) (N:=some 68) (v:=?_) (a':=?_) (bm 7 12) rfl rfl (by kernel_rfl) (fun _ _ _ h=>h) (Or.inl ⟨by rfl,?_⟩) ?_ ?_
   rotate_left
   ·intro w'
    go_simp
    with_reducible rfl
   rotate_left
   ·simp only [Act.put,sA,sB,sC,i64_w,i32_w]
    rfl
   refine pure_ (i:=3) (N:=some 69) (v:=undef) (a':=?_) (bm 15 12) rfl rfl (by kernel_rfl) (fun _ _ _ h=>h) (Or.inr ⟨by rfl,rfl⟩) ?_ ?_
   rotate_left
   ·simp only [Act.put,sA,sB,sC,i64_w,i32_w]
    rfl
   refine pure_ (i:=4) (N:=some 70) (v:=undef) (a':=?_) (bm 31 12) rfl rfl (by kernel_rfl) (fun _ _ _ h=>h) (Or.inr ⟨by rfl,rfl⟩) ?_ ?_
   rotate_left
   ·simp only [Act.put,sA,sB,sC,i64_w,i32_w]
    rfl
   refine pure_ (i:=5) (N:=some 71) (v:=undef) (a':=?_) (bm 63 12) rfl rfl (by kernel_rfl) (fun _ _ _ h=>h) (Or.inr ⟨by rfl,rfl⟩) ?_ ?_
   rotate_left
   ·simp only [Act.put,sA,sB,sC,i64_w,i32_w]
    rfl
   refine pure_ (i:=6) (N:=some 72) (v:=undef) (a':=?_) (bm 127 12) rfl rfl (by kernel_rfl) (fun _ _ _ h=>h) (Or.inr ⟨by rfl,rfl⟩) ?_ ?_
   rotate_left
   ·simp only [Act.put,sA,sB,sC,i64_w,i32_w]
    rfl
   refine pure_ (i:=7) (N:=some 73) (v:=undef) (a':=?_) (bm 255 12) rfl rfl (by kernel_rfl) (fun _ _ _ h=>h) (Or.inr ⟨by rfl,rfl⟩) ?_ ?_
   rotate_left
   ·simp only [Act.put,sA,sB,sC,i64_w,i32_w]
    rfl
   refine pure_ (i:=8) (N:=some 74) (v:=undef) (a':=?_) (bm 511 12) rfl rfl (by kernel_rfl) (fun _ _ _ h=>h) (Or.inr ⟨by rfl,rfl⟩) ?_ ?_
   rotate_left
   ·simp only [Act.put,sA,sB,sC,i64_w,i32_w]
    rfl
   refine pure_ (i:=9) (N:=some 75) (v:=undef) (a':=?_) (bm 1023 12) rfl rfl (by kernel_rfl) (fun _ _ _ h=>h) (Or.inr ⟨by rfl,rfl⟩) ?_ ?_
   rotate_left
   ·simp only [Act.put,sA,sB,sC,i64_w,i32_w]
    rfl
   refine pure_ (i:=10) (N:=some 76) (v:=undef) (a':=?_) (bm 2047 12) rfl rfl (by kernel_rfl) (fun _ _ _ h=>h) (Or.inr ⟨by rfl,rfl⟩) ?_ ?_
   rotate_left
   ·simp only [Act.put,sA,sB,sC,i64_w,i32_w]
    rfl
   refine pure_ (i:=11) (N:=some 77) (v:=?_) (a':=?_) (bm 4095 12) rfl rfl (by kernel_rfl) (fun _ _ _ h=>h) (Or.inl ⟨by rfl,?_⟩) ?_ ?_
   rotate_left
   ·intro w'
    go_simp
    with_reducible rfl
   rotate_left
   ·simp only [Act.put,sA,sB,sC,i64_w,i32_w]
    rfl
   refine done_ (by kernel_rfl) ?_
   go_wp2
   go_meet
   case rel=>exact ⟨rfl,⟨HJ3.out.drew⟩,⟨blk_drew HGX3.out⟩,⟨blk_drew HGC3.out⟩⟩
 case rest =>
 clear HJ3 HGX3 HGC3 htc
 obtain ⟨rfl,HJ3,HGX3,HGC3⟩:=hcut
 cases tc with
 | false =>
  have wk:IntKind.i64.wrap ((i:Int) + 1) = (i:Int) + 1:=by rw [i64_w];exact HWI.out
  go_wp2
  clear wk
  go_roundg gl
  case measure=>omega
  case rel=>exact ⟨i + 1,bd,u,by simp [HWI.out],⟨by have:=HI.out;omega⟩,HJ3,HGX3,⟨by have:=HBL.out;omega⟩,⟨by have:=HAT1.out;simpa using this⟩⟩
 | true =>
  obtain ⟨BU,mU,hU⟩:=Kd.N_slice HJ3.out.ru
  subst hU
  have HJD:=Aside0.mk HJ3.out.drew
  have HGX:=Aside0.mk (blk_drew HGX3.out)
  have HGC:=Aside0.mk (blk_drew HGC3.out)
  have HLB0:=HLB
  have HLB:Aside0 (bd.length + 1 ≤ 1073741824 + 1):=⟨by have:=HBL.out;have:=HLB0.out;have:=HI.out;omega⟩
  go_upto_region 10 with (fail)
  refine start_ (n:=20) (S:=fun w'=>w'.cell? ⟨g,0,none⟩ = some (.int .i64 nd) ∧ w'.cell? ⟨g,1,none⟩ = some (.slice AI out.length cI) ∧ w'.cell? ⟨g,2,none⟩ = some (.slice BU bd.length mU) ∧ w'.cell? ⟨gc,0,none⟩ = some (.string c.f0)) (ds:=[19]) #[false,false,false,false,false,false,false,false,false,false,false,false,false,false,false,false,false,false,false,false] (by kernel_rfl) rfl rfl ⟨((blk_cell HJD.out.blk 0).trans rfl),((blk_cell HJD.out.blk 1).trans rfl),((blk_cell HJD.out.blk 2).trans rfl),((blk_cell HGC.out 0).trans rfl)⟩ (fun hHeld=>?_)
  refine pure_ (i:=0) (N:=some 78) (v:=?_) (a':=?_) (bm 1 20) rfl rfl (by kernel_rfl) (fun _ _ _ h=>h) (Or.inl ⟨by rfl,?_⟩) ?_ ?_
  rotate_left
  ·intro w'
   go_simp
   with_reducible rfl
  rotate_left
  ·simp only [Act.put,sA,sB,sC,i64_w,i32_w]
   rfl
  refine pure_ (i:=1) (N:=some 79) (v:=?_) (a':=?_) (bm 3 20) rfl rfl (by kernel_rfl) (fun _ _ _ h=>h) (Or.inl ⟨by rfl,?_⟩) ?_ ?_
  rotate_left
  ·intro w'
   go_simp
   with_reducible rfl
  rotate_left
  ·simp only [Act.put,sA,sB,sC,i64_w,i32_w]
   rfl
  refine pure_ (i:=2) (N:=some 80) (v:=?_) (a':=?_) (bm 7 20) rfl rfl (by kernel_rfl) (fun _ _ _ h=>h) (Or.inl ⟨by rfl,?_⟩) ?_ ?_
  rotate_left
  ·intro w'
   go_simp
   with_reducible rfl
  rotate_left
  ·simp only [Act.put,sA,sB,sC,i64_w,i32_w]
   rfl
  refine pure_ (i:=3) (N:=some 81) (v:=?_) (a':=?_) (bm 15 20) rfl rfl (by kernel_rfl) (fun _ _ _ h=>h) (Or.inl ⟨by rfl,?_⟩) ?_ ?_
  rotate_left
  ·intro w'
   go_simp
   with_reducible rfl
  rotate_left
  ·simp only [Act.put,sA,sB,sC,i64_w,i32_w]
   rfl
  refine pure_ (i:=5) (N:=some 83) (v:=?_) (a':=?_) (bm 47 20) rfl rfl (by kernel_rfl) (fun _ _ _ h=>h) (Or.inl ⟨by rfl,?_⟩) ?_ ?_
  rotate_left
  ·intro w'
   go_simp
   with_reducible rfl
  rotate_left
  ·simp only [Act.put,sA,sB,sC,i64_w,i32_w]
   rfl
  refine pure_ (i:=6) (N:=some 84) (v:=?_) (a':=?_) (bm 111 20) rfl rfl (by kernel_rfl) (fun _ _ _ h=>h) (Or.inl ⟨by rfl,?_⟩) ?_ ?_
  rotate_left
  ·intro w'
   go_simp
   with_reducible rfl
  rotate_left
  ·simp only [Act.put,sA,sB,sC,i64_w,i32_w]
   rfl
  refine pure_ (i:=7) (N:=some 85) (v:=?_) (a':=?_) (bm 239 20) rfl rfl (by kernel_rfl) (fun _ _ _ h=>h) (Or.inl ⟨by rfl,?_⟩) ?_ ?_
  rotate_left
  ·intro w'
   go_simp
   with_reducible rfl
  rotate_left
  ·simp only [Act.put,sA,sB,sC,i64_w,i32_w]
   rfl
  refine pure_ (i:=9) (N:=some 87) (v:=?_) (a':=?_) (bm 751 20) rfl rfl (by kernel_rfl) (fun _ _ _ h=>h) (Or.inl ⟨by rfl,?_⟩) ?_ ?_
  rotate_left
  ·intro w'
   go_simp
   with_reducible rfl
  rotate_left
  ·simp only [Act.put,sA,sB,sC,i64_w,i32_w]
   rfl
  refine pure_ (i:=10) (N:=some 88) (v:=?_) (a':=?_) (bm 1775 20) rfl rfl (by kernel_rfl) (fun _ _ _ h=>h) (Or.inl ⟨by rfl,?_⟩) ?_ ?_
  rotate_left
  ·intro w'
   go_simp
   with_reducible rfl
  rotate_left
  ·simp only [Act.put,sA,sB,sC,i64_w,i32_w]
   rfl
  refine pure_ (i:=11) (N:=some 89) (v:=?_) (a':=?_) (bm 3823 20) rfl rfl (by kernel_rfl) (fun _ _ _ h=>h) (Or.inl ⟨by rfl,?_⟩) ?_ ?_
  rotate_left
  ·intro w'
   go_simp
   with_reducible rfl
  rotate_left
  ·simp only [Act.put,sA,sB,sC,i64_w,i32_w]
   rfl
  refine pure_ (i:=12) (N:=some 90) (v:=?_) (a':=?_) (bm 7919 20) rfl rfl (by kernel_rfl) (fun _ _ _ h=>h) (Or.inl ⟨by rfl,?_⟩) ?_ ?_
  rotate_left
  ·intro w'
   go_simp
   with_reducible rfl
  rotate_left
  ·simp only [Act.put,sA,sB,sC,i64_w,i32_w]
   rfl
  refine take_ (i:=4) (N:=some 82) (v:=?_) (a':=?_) (bm 7935 20) rfl rfl (by kernel_rfl) (fun _ _ _ h=>h) (Or.inl ⟨by rfl,?_⟩) hHeld ?_ ?_
  rotate_left
  ·rintro w' ⟨s0,s1,s2,s3⟩
   go_simp
   with_reducible rfl
  rotate_left
  ·simp only [Act.put,sA,sB,sC,i64_w,i32_w]
   rfl
  refine take_ (i:=8) (N:=some 86) (v:=?_) (a':=?_) (bm 8191 20) rfl rfl (by kernel_rfl) (fun _ _ _ h=>h) (Or.inl ⟨by rfl,?_⟩) hHeld ?_ ?_
  rotate_left
  ·rintro w' ⟨s0,s1,s2,s3⟩
   go_simp
   with_reducible rfl
  rotate_left
  ·simp only [Act.put,sA,sB,sC,i64_w,i32_w]
   rfl
  refine take_ (i:=13) (N:=some 91) (v:=?_) (a':=?_) (bm 16383 20) rfl rfl (by kernel_rfl) (fun _ _ _ h=>h) (Or.inl ⟨by rfl,?_⟩) hHeld ?_ ?_
  rotate_left
  ·rintro w' ⟨s0,s1,s2,s3⟩
   go_simp
   with_reducible rfl
  rotate_left
  ·simp only [Act.put,sA,sB,sC,i64_w,i32_w]
   rfl
  refine pure_ (i:=14) (N:=some 92) (v:=?_) (a':=?_) (bm 32767 20) rfl rfl (by kernel_rfl) (fun _ _ _ h=>h) (Or.inl ⟨by rfl,?_⟩) ?_ ?_
  rotate_left
  ·intro w'
   go_simp
   with_reducible rfl
  rotate_left
  ·simp only [Act.put,sA,sB,sC,i64_w,i32_w]
   rfl
  refine one_ (i:=15) (N:=some 93) (bm 65535 20) rfl rfl (by kernel_rfl) (by decide) (fun K hK=>?_)
  refine value_ (w1:=?_) (v:=?_) (by rfl) rfl ?_ ?_
  rotate_left 2
  ·go_simp
   constructor
   ·rfl
   ·rfl
  refine hK.out _ _ ⟨((blk_cell (blk_alloc HJD.out.blk _) 0).trans rfl),((blk_cell (blk_alloc HJD.out.blk _) 1).trans rfl),((blk_cell (blk_alloc HJD.out.blk _) 2).trans rfl),((blk_cell (blk_alloc HGC.out _) 0).trans rfl)⟩ (fun hHeld=>?_)
  clear hK K
  refine norm_ (a':=?_) ?_ ?_
  rotate_left
  ·show Act.put _ (some 93) _ = _
   simp only [Act.put,sA,sB,sC,i64_w,i32_w]
   rfl
  refine one_ (i:=16) (N:=some 94) (bm 131071 20) rfl rfl (by kernel_rfl) (by decide) (fun K hK=>?_)
  refine Kd.N_append_step k56 (w0:=w0) w0.heap.size (by rfl) (.tmp 82) (.tmp 93) 48 56 (.agg #[.int .i64 0,.int .i64 0,.int .i64 0,.int .i64 0,.string ⟨#[]⟩]) 48 rfl Try.underlying48 info56 rfl (by decide) (by decide) _ _ ⟨2,nd,(out.length:Int),wrap64 ((out.length:Int) + 1),c.f0⟩ [.int .i64 2,.int .i64 nd,.int .i64 (out.length:Int),.int .i64 (wrap64 ((out.length:Int) + 1)),.string c.f0] (fun k=>(k ≠ g ∧ k ≠ gx) ∧ some k ≠ (.slice AI out.length cI:Value).ownBlock) (fun _=>False) (by rfl) (by rfl) (k56_mkF _ _ ⟨2,nd,(out.length:Int),wrap64 ((out.length:Int) + 1),c.f0⟩) (fun _ hk=>hk.elim) (HJD.out.freshU) HJD.out.ru HJD.out.bel HJD.out.bel.size (by have:=HLB.out;omega) ?_
  intro u1_ w1_ hR1 hB1 hg hat
  obtain ⟨AU,nU,rfl⟩:=Kd.N_slice hR1
  obtain ⟨hb1,hW⟩:=HJD.out.appU hR1 hB1 hg hat
  have HW:=Aside0.mk hW
  have HGX1:=Aside0.mk (blk_grown HGX.out hg (Kd.N_ne HJD.out.ru HGX.out (by decide)))
  have hd2:w1_.cell? ⟨g,2,none⟩ = some (.slice BU bd.length mU):=(blk_cell hb1 2).trans rfl
  have hd0:w1_.cell? ⟨g,0,none⟩ = some (.int .i64 nd):=(blk_cell hb1 0).trans rfl
  have hd1:w1_.cell? ⟨g,1,none⟩ = some (.slice AI out.length cI):=(blk_cell hb1 1).trans rfl
  have hdf:=blk_frozen hb1 2
  have hdc:w1_.cell? ⟨gc,0,none⟩ = some (.string c.f0):=(blk_cell (blk_grown HGC.out hg (Kd.N_ne HJD.out.ru HGC.out (by decide))) 0).trans rfl
  clear hR1 hB1 hg hat hb1 hW
  refine hK.out _ _ ⟨hd0,hd1,hd2,hdc⟩ (fun hHeld=>?_)
  clear hK K
  refine norm_ (a':=?_) ?_ ?_
  rotate_left
  ·show Act.put _ (some 94) _ = _
   simp only [Act.put,sA,sB,sC,i64_w,i32_w]
   rfl
  refine pure_ (i:=17) (N:=some 95) (v:=?_) (a':=?_) (bm 262143 20) rfl rfl (by kernel_rfl) (fun _ _ _ h=>h) (Or.inl ⟨by rfl,?_⟩) ?_ ?_
  rotate_left
  ·intro w'
   go_simp
   with_reducible rfl
  rotate_left
  ·simp only [Act.put,sA,sB,sC,i64_w,i32_w]
   rfl
  refine pure_ (i:=18) (N:=some 96) (v:=?_) (a':=?_) (bm 524287 20) rfl rfl (by kernel_rfl) (fun _ _ _ h=>h) (Or.inl ⟨by rfl,?_⟩) ?_ ?_
  rotate_left
  ·intro w'
   go_simp
   with_reducible rfl
  rotate_left
  ·simp only [Act.put,sA,sB,sC,i64_w,i32_w]
   rfl
  refine last_ (i:=19) (N:=none) (bm 1048575 20) rfl rfl (by kernel_rfl) (by decide) (fun K hK=>?_)
  refine skip_ (w1:=?_) (by rfl) rfl ?_ ?_
  rotate_left
  ·go_simp
   rfl
  refine hK.out _ _ ?_
  clear hK K
  refine done_ (by kernel_rfl) ?_
  have wk:IntKind.i64.wrap ((i:Int) + 1) = (i:Int) + 1:=by rw [i64_w];exact HWI.out
  go_wp2
  clear wk
  go_roundg gl
  case measure=>omega
  case rel =>
   refine ⟨i + 1,bd ++ [⟨2,nd,(out.length:Int),wrap64 ((out.length:Int) + 1),c.f0⟩],.slice AU (bd.length + 1) nU,by simp [HWI.out],⟨by have:=HI.out;omega⟩,⟨?_⟩,⟨?_⟩,⟨by have:=HBL.out;rw [List.length_append,List.length_singleton];omega⟩,⟨by have:=HAT1.out;simpa using this⟩⟩
   ·simpa using HW.out
   ·exact blk_far HGX1.out HJD.out.ne.symm _
abbrev Side:=List (List S26) × List Bool × List (List S91)
noncomputable def smB (a b:List S26):Bool:=@decide (a = b) (Classical.propDecidable _)
noncomputable def stO (o:List S26) (p q:Side) (i:Nat) (t:List S26):List S26:=gapO t (rd_L5 p.1 (i:Int)) (rd_L5 q.1 (i:Int)) (smB (rd_L5 p.1 (i:Int)) (rd_L5 q.1 (i:Int)))
noncomputable def stB (nd:Int) (p q:Side) (i:Nat) (t:List S26) (bd:List S56):List S56:=gapB nd t bd (rd_L5 p.1 (i:Int)) (rd_L5 q.1 (i:Int)) (smB (rd_L5 p.1 (i:Int)) (rd_L5 q.1 (i:Int)))
noncomputable def jnS (nd:Int) (o:List S26) (p q:Side) (i:Nat) (t:List S26 × List S56):List S26 × List S56 :=
 (elemO (stO o p q i t.1) (rd_T26 o (i:Int)) (rd_L3 p.2.2 (i:Int)) (rd_L3 q.2.2 (i:Int)) (p.2.1.getD i false) (q.2.1.getD i false),
  elemB nd (stO o p q i t.1) (stB nd p q i t.1 t.2) (rd_L3 p.2.2 (i:Int)) (rd_L3 q.2.2 (i:Int)) (p.2.1.getD i false) (q.2.1.getD i false))
noncomputable def jnP (nd:Int) (o:List S26) (p q:Side):Nat → List S26 × List S56
 | 0=>([],[])
 | i + 1=>jnS nd o p q i (jnP nd o p q i)
noncomputable def jnO (nd:Int) (o:List S26) (p q:Side):List S26:=stO o p q o.length (jnP nd o p q o.length).1
noncomputable def jnB (nd:Int) (o:List S26) (p q:Side):List S56:=stB nd p q o.length (jnP nd o p q o.length).1 (jnP nd o p q o.length).2
structure JnB (k:Nat) (o:List S26) (p q:Side):Prop where
 n:o.length ≤ 64
 pa:p.1.length = o.length + 1
 pc:p.2.1.length = o.length
 pt:p.2.2.length = o.length
 qa:q.1.length = o.length + 1
 qc:q.2.1.length = o.length
 qt:q.2.2.length = o.length
 ga:∀ i:Nat,(rd_L5 p.1 (i:Int)).length ≤ 1000 ∧ (rd_L5 q.1 (i:Int)).length ≤ 1000
 ta:∀ i:Nat,(rd_L3 p.2.2 (i:Int)).length ≤ 4194304 ∧ (rd_L3 q.2.2 (i:Int)).length ≤ 4194304
 xa:∀ i:Nat,(rd_T26 o (i:Int)).f2.length ≤ 1048576
 sm:∀ i:Nat,i ≤ o.length → flow_Same.f k (rd_L5 p.1 (i:Int)) (rd_L5 q.1 (i:Int)) = some (smB (rd_L5 p.1 (i:Int)) (rd_L5 q.1 (i:Int)))
theorem gapO_len (t a b:List S26) (sm:Bool):(gapO t a b sm).length ≤ t.length + a.length + b.length:=by
 unfold gapO
 split <;> simp only [List.length_append] <;> omega
theorem gapB_len (nd:Int) (t:List S26) (bd:List S56) (a b:List S26) (sm:Bool):(gapB nd t bd a b sm).length ≤ bd.length + 1:=by
 unfold gapB
 split
 ·omega
 ·rw [List.length_append,List.length_singleton];omega
theorem elemO_len (t:List S26) (x:S26) (a b:List S91) (u v:Bool):(elemO t x a b u v).length ≤ t.length + 1:=by
 unfold elemO
 split
 ·omega
 ·rw [List.length_append,List.length_singleton];omega
theorem elemB_len (nd:Int) (t:List S26) (bd:List S56) (a b:List S91) (u v:Bool):(elemB nd t bd a b u v).length ≤ bd.length + a.length + 1:=by
 unfold elemB
 split
 ·split
  ·rw [List.length_append,List.length_singleton];omega
  ·omega
 ·have:=attB_len nd (t.length:Int) b a bd;omega
theorem JnB.len {k:Nat} {o:List S26} {p q:Side} (h:JnB k o p q) (nd:Int):∀ i,(jnP nd o p q i).1.length ≤ i * 2001 ∧ (jnP nd o p q i).2.length ≤ i * 4194306
 | 0=>⟨Nat.zero_le _,Nat.zero_le _⟩
 | i + 1=>by
  obtain ⟨h1,h2⟩:=h.len nd i
  obtain ⟨g1,g2⟩:=h.ga i
  obtain ⟨t1,t2⟩:=h.ta i
  have e1:=elemO_len (stO o p q i (jnP nd o p q i).1) (rd_T26 o (i:Int)) (rd_L3 p.2.2 (i:Int)) (rd_L3 q.2.2 (i:Int)) (p.2.1.getD i false) (q.2.1.getD i false)
  have e2:(stO o p q i (jnP nd o p q i).1).length ≤ (jnP nd o p q i).1.length + (rd_L5 p.1 (i:Int)).length + (rd_L5 q.1 (i:Int)).length:=gapO_len _ _ _ _
  have e3:=elemB_len nd (stO o p q i (jnP nd o p q i).1) (stB nd p q i (jnP nd o p q i).1 (jnP nd o p q i).2) (rd_L3 p.2.2 (i:Int)) (rd_L3 q.2.2 (i:Int)) (p.2.1.getD i false) (q.2.1.getD i false)
  have e4:(stB nd p q i (jnP nd o p q i).1 (jnP nd o p q i).2).length ≤ (jnP nd o p q i).2.length + 1:=gapB_len _ _ _ _ _ _
  constructor
  ·show (elemO _ _ _ _ _ _).length ≤ _;omega
  ·show (elemB _ _ _ _ _ _ _).length ≤ _;omega
theorem drop_T26 (l:List S26) (i:Nat) (h:i < l.length):l.drop i = rd_T26 l (i:Int) :: l.drop (i + 1):=by
 rw [List.drop_eq_getElem_cons h]
 simp [rd_T26,List.getD_eq_getElem?_getD,List.getElem?_eq_getElem h]
def Alk (x y:S26):Prop:=x.f0 = y.f0 ∧ x.f1 = y.f1
instance (x y:S26):Decidable (Alk x y):=by unfold Alk;infer_instance
noncomputable instance (x y:S26):Decidable (x.f2 = y.f2):=Classical.propDecidable _
noncomputable def prc (x y:S26):Nat:=if x.f2 = y.f2 then 0 else 1
noncomputable def tc:List S26 → List S26 → Nat
 | [],b=>b.length
 | x :: a,[]=>a.length + 1
 | x :: a,y :: b=>if Alk x y then min (1 + min (tc a (y :: b)) (tc (x :: a) b)) (tc a b + prc x y) else 1 + min (tc a (y :: b)) (tc (x :: a) b)
termination_by a b=>a.length + b.length
theorem tc_nil (b:List S26):tc [] b = b.length:=by rw [tc]
theorem tc_nil' (a:List S26):tc a [] = a.length:=by cases a with
 | nil=>rw [tc]
 | cons x a=>rw [tc];rfl
theorem tc_cons (x:S26) (a:List S26) (y:S26) (b:List S26):tc (x :: a) (y :: b) = if Alk x y then min (1 + min (tc a (y :: b)) (tc (x :: a) b)) (tc a b + prc x y) else 1 + min (tc a (y :: b)) (tc (x :: a) b):=by rw [tc]
theorem tc_le:∀ (n:Nat) (a b:List S26),a.length + b.length ≤ n → tc a b ≤ a.length + b.length
 | n,[],b,_=>by rw [tc_nil];omega
 | n,x :: a,[],_=>by rw [tc_nil'];omega
 | 0,x :: a,y :: b,h=>by simp at h
 | n + 1,x :: a,y :: b,h=>by
  simp only [List.length_cons] at h
  have h1:=tc_le n a (y :: b) (by simp only [List.length_cons];omega)
  rw [tc_cons]
  simp only [List.length_cons] at h1 ⊢
  split <;> omega
inductive Way:List S26 → List S26 → List Un → Prop
 | nil:Way [] [] []
 | keep {x y:S26} {a b:List S26} {u:List Un}:Alk x y → Way a b u → Way (x :: a) (y :: b) (.keep (mrg changeE x.f2 y.f2) :: u)
 | cut {x:S26} {a b:List S26} {u:List Un}:Way a b u → Way (x :: a) b (.cut :: u)
 | add {y:S26} {a b:List S26} {u:List Un}:Way a b u → Way a (y :: b) (.add y :: u)
theorem Way.leads {a b:List S26} {u:List Un} (h:Way a b u):(∀ x ∈ a,ElemOK x) → (∀ y ∈ b,ElemOK y) → run a u = (b,[]) ∧ nold u = a.length ∧ nnew u = b.length ∧ u.length ≤ a.length + b.length:=by
 induction h with
 | nil=>intro _ _;exact ⟨rfl,rfl,rfl,Nat.le_refl _⟩
 | @keep x y a b u hk h ih =>
  intro ha hb
  obtain ⟨e,o,n,l⟩:=ih (fun z hz=>ha z (List.mem_cons_of_mem _ hz)) (fun z hz=>hb z (List.mem_cons_of_mem _ hz))
  have hy:=hb y List.mem_cons_self
  have hx:=ha x List.mem_cons_self
  refine ⟨?_,by simp only [nold,List.length_cons];omega,by simp only [nnew,List.length_cons];omega,by simp only [List.length_cons];omega⟩
  rw [run,e]
  simp only
  have:app (mrg changeE x.f2 y.f2) x = y:=by
   unfold app
   rw [lead_back hx.2 hy.2]
   cases x;cases y
   obtain ⟨h1,h2⟩:=hk
   simp only at h1 h2
   subst h1 h2
   rfl
  rw [this]
 | @cut x a b u h ih =>
  intro ha hb
  obtain ⟨e,o,n,l⟩:=ih (fun z hz=>ha z (List.mem_cons_of_mem _ hz)) hb
  exact ⟨by rw [run,e],by simp only [nold,List.length_cons];omega,by simp only [nnew];omega,by simp only [List.length_cons];omega⟩
 | @add y a b u h ih =>
  intro ha hb
  obtain ⟨e,o,n,l⟩:=ih ha (fun z hz=>hb z (List.mem_cons_of_mem _ hz))
  exact ⟨by rw [run,e],by simp only [nold];omega,by simp only [nnew,List.length_cons];omega,by simp only [List.length_cons];omega⟩
end Go.Proofs.Ytlcodfjlbhjkbaa.PDelta
end
section
namespace Go.Proofs.Ytlcodfjlbhjkbaa.PDelta
open Go.RowKit Go.Proofs.YtlcodfjlbhjkbaaW.PrintWords Go.Proofs.YtlcodfjlbhjkbaaW.PrintLast Go.Proofs.YtlcodfjlbhjkbaaW.PrintMore
attribute [local go_sem] max2_int min2_int max_two min_two max_three min_three max_four min_four
attribute [local go_sem high] Go.Proofs.Ytlcodfjlbhjkbaa.Ord.leq_str Go.Proofs.Ytlcodfjlbhjkbaa.Ord.gtr_str Go.Proofs.Ytlcodfjlbhjkbaa.Ord.geq_str
def diff_alike.f (a0_0:Int) (a0_1:Int) (l0_2:List (S91)) (a1_0:Int) (a1_1:Int) (l1_2:List (S91)):Option (Bool):=if a0_0 = a1_0 then (some (a0_1 == a1_1)) else (some false)
set_option maxHeartbeats 8000000 in
set_option maxRecDepth 100000 in
theorem diff_alike.calls (a0_0:Int) (a0_1:Int) (A0_2:Option Addr) (c0_2:Nat) (l0_2:List (S91)) (a1_0:Int) (a1_1:Int) (A1_2:Option Addr) (c1_2:Nat) (l1_2:List (S91)) (r:Bool) (w:World) (hr0_2:Kd.C k91 w A0_2 l0_2.length l0_2) (hc0_2:l0_2.length ≤ c0_2) (hr1_2:Kd.C k91 w A1_2 l1_2.length l1_2) (hc1_2:l1_2.length ≤ c1_2) (h:diff_alike.f a0_0 a0_1 l0_2 a1_0 a1_1 l1_2 = some r) :
 Calls Try.prog 133 #[.agg #[.int .i64 a0_0,.int .i64 a0_1,.slice A0_2 l0_2.length c0_2],.agg #[.int .i64 a1_0,.int .i64 a1_1,.slice A1_2 l1_2.length c1_2]] w fun e w'=>e = .returned (.bool r) ∧ Below w.heap.size w w':=by
 have hu26:=Try.underlying26
 have HR0_2:=Aside0.mk hr0_2
 have HC0_2:=Aside0.mk hc0_2
 clear hr0_2 hc0_2
 have HR1_2:=Aside0.mk hr1_2
 have HC1_2:=Aside0.mk hc1_2
 clear hr1_2 hc1_2
 have HB:=Aside0.mk (Below.refl w.heap.size w)
 have H:(if a0_0 = a1_0 then (some (a0_1 == a1_1)) else (some false)) = some r:=h
 clear h
 by_cases c3:a0_0 = a1_0
 ·rw [if_pos c3] at H
  have c3b0:(a0_0 == a1_0) = true:=beq_iff_eq.mpr c3
  have c3b1:(a0_0 != a1_0) = false:=bne_eq_false_iff_eq.mpr c3
  clear c3
  obtain rfl:=Option.some.inj H
  go_enter Try.func133,Try.ntmps133
  go_wp2_with (first | ((with_reducible refine gate_dst (N:=2) rfl ?_);refine box_event ?hg (N:=2) ?hd (cs:=#[.int .i64 a0_0,.int .i64 a0_1,.slice A0_2 l0_2.length c0_2]) (t:=26) ?hr ?_;(case hd=>rfl);(case hg=>rfl);(case hr=>(go_simp;done));intro gb504 hg w4 hbox hb;have n0_:=Aside0.mk (below_step (by with_reducible exact HB.out) hb);have n1_:=Aside0.mk hbox;have n2_:=Aside0.mk ((by rw [hg];exact (below_size (by with_reducible exact HB.out)):w.heap.size ≤ gb504));have n3_:=Aside0.mk ((by rw [hg];exact (below_size (by with_reducible exact HB.out)):w.heap.size ≤ gb504));clear HB;have HB:=n0_;have BK504:=n1_;have GW504:=n2_;have GE504:=n3_;clear n0_ n1_ n2_ n3_;clear hb hbox hg) | ((with_reducible refine gate_dst (N:=3) rfl ?_);refine box_event ?hg (N:=3) ?hd (cs:=#[.int .i64 a1_0,.int .i64 a1_1,.slice A1_2 l1_2.length c1_2]) (t:=26) ?hr ?_;(case hd=>rfl);(case hg=>rfl);(case hr=>(go_simp;done));intro gb505 hg w5 hbox hb;have n0_:=Aside0.mk (blk_below BK504.out hb);have n1_:=Aside0.mk (below_step HB.out hb);have n2_:=Aside0.mk hbox;have n3_:=Aside0.mk ((by rw [hg];exact (below_size HB.out):w.heap.size ≤ gb505));have n4_:=Aside0.mk ((by rw [hg];exact (below_size HB.out):w.heap.size ≤ gb505));have n5_:=Aside0.mk ((by rw [hg];exact Nat.ne_of_lt (blk_lt BK504.out):gb504 ≠ gb505));have n6_:=Aside0.mk ((by rw [hg];exact Nat.ne_of_gt (blk_lt BK504.out):gb505 ≠ gb504));clear BK504;clear HB;have BK504:=n0_;have HB:=n1_;have BK505:=n2_;have GW505:=n3_;have GE505:=n4_;have NB504_505:=n5_;have NB505_504:=n6_;clear n0_ n1_ n2_ n3_ n4_ n5_ n6_;clear hb hbox hg;have hnb6:=NB504_505.out;have hnc6:=NB505_504.out;have hcz7_0:w5.cell? ⟨gb504,0,none⟩ = some (.int .i64 a0_0):=(blk_cell BK504.out 0).trans rfl;have hcz7_1:w5.cell? ⟨gb504,1,none⟩ = some (.int .i64 a0_1):=(blk_cell BK504.out 1).trans rfl;have hcz7_2:w5.cell? ⟨gb504,2,none⟩ = some (.slice A0_2 l0_2.length c0_2):=(blk_cell BK504.out 2).trans rfl;have hfz7_0:=blk_frozen BK504.out 0;have hfz7_1:=blk_frozen BK504.out 1;have hfz7_2:=blk_frozen BK504.out 2;have hcz8_0:w5.cell? ⟨gb505,0,none⟩ = some (.int .i64 a1_0):=(blk_cell BK505.out 0).trans rfl;have hcz8_1:w5.cell? ⟨gb505,1,none⟩ = some (.int .i64 a1_1):=(blk_cell BK505.out 1).trans rfl;have hcz8_2:w5.cell? ⟨gb505,2,none⟩ = some (.slice A1_2 l1_2.length c1_2):=(blk_cell BK505.out 2).trans rfl;have hfz8_0:=blk_frozen BK505.out 0;have hfz8_1:=blk_frozen BK505.out 1;have hfz8_2:=blk_frozen BK505.out 2))
  go_ret
  exact ⟨by rfl,HB.out⟩
 ·rw [if_neg c3] at H
  have c3b0:(a0_0 == a1_0) = false:=beq_eq_false_iff_ne.mpr c3
  have c3b1:(a0_0 != a1_0) = true:=bne_iff_ne.mpr c3
  obtain rfl:=Option.some.inj H
  go_enter Try.func133,Try.ntmps133
  go_wp2_with (first | ((with_reducible refine gate_dst (N:=2) rfl ?_);refine box_event ?hg (N:=2) ?hd (cs:=#[.int .i64 a0_0,.int .i64 a0_1,.slice A0_2 l0_2.length c0_2]) (t:=26) ?hr ?_;(case hd=>rfl);(case hg=>rfl);(case hr=>(go_simp;done));intro gb504 hg w9 hbox hb;have n0_:=Aside0.mk (below_step (by with_reducible exact HB.out) hb);have n1_:=Aside0.mk hbox;have n2_:=Aside0.mk ((by rw [hg];exact (below_size (by with_reducible exact HB.out)):w.heap.size ≤ gb504));have n3_:=Aside0.mk ((by rw [hg];exact (below_size (by with_reducible exact HB.out)):w.heap.size ≤ gb504));clear HB;have HB:=n0_;have BK504:=n1_;have GW504:=n2_;have GE504:=n3_;clear n0_ n1_ n2_ n3_;clear hb hbox hg) | ((with_reducible refine gate_dst (N:=3) rfl ?_);refine box_event ?hg (N:=3) ?hd (cs:=#[.int .i64 a1_0,.int .i64 a1_1,.slice A1_2 l1_2.length c1_2]) (t:=26) ?hr ?_;(case hd=>rfl);(case hg=>rfl);(case hr=>(go_simp;done));intro gb505 hg w10 hbox hb;have n0_:=Aside0.mk (blk_below BK504.out hb);have n1_:=Aside0.mk (below_step HB.out hb);have n2_:=Aside0.mk hbox;have n3_:=Aside0.mk ((by rw [hg];exact (below_size HB.out):w.heap.size ≤ gb505));have n4_:=Aside0.mk ((by rw [hg];exact (below_size HB.out):w.heap.size ≤ gb505));have n5_:=Aside0.mk ((by rw [hg];exact Nat.ne_of_lt (blk_lt BK504.out):gb504 ≠ gb505));have n6_:=Aside0.mk ((by rw [hg];exact Nat.ne_of_gt (blk_lt BK504.out):gb505 ≠ gb504));clear BK504;clear HB;have BK504:=n0_;have HB:=n1_;have BK505:=n2_;have GW505:=n3_;have GE505:=n4_;have NB504_505:=n5_;have NB505_504:=n6_;clear n0_ n1_ n2_ n3_ n4_ n5_ n6_;clear hb hbox hg;have hnb11:=NB504_505.out;have hnc11:=NB505_504.out;have hcz12_0:w10.cell? ⟨gb504,0,none⟩ = some (.int .i64 a0_0):=(blk_cell BK504.out 0).trans rfl;have hcz12_1:w10.cell? ⟨gb504,1,none⟩ = some (.int .i64 a0_1):=(blk_cell BK504.out 1).trans rfl;have hcz12_2:w10.cell? ⟨gb504,2,none⟩ = some (.slice A0_2 l0_2.length c0_2):=(blk_cell BK504.out 2).trans rfl;have hfz12_0:=blk_frozen BK504.out 0;have hfz12_1:=blk_frozen BK504.out 1;have hfz12_2:=blk_frozen BK504.out 2;have hcz13_0:w10.cell? ⟨gb505,0,none⟩ = some (.int .i64 a1_0):=(blk_cell BK505.out 0).trans rfl;have hcz13_1:w10.cell? ⟨gb505,1,none⟩ = some (.int .i64 a1_1):=(blk_cell BK505.out 1).trans rfl;have hcz13_2:w10.cell? ⟨gb505,2,none⟩ = some (.slice A1_2 l1_2.length c1_2):=(blk_cell BK505.out 2).trans rfl;have hfz13_0:=blk_frozen BK505.out 0;have hfz13_1:=blk_frozen BK505.out 1;have hfz13_2:=blk_frozen BK505.out 2))
  go_ret
  exact ⟨by rfl,HB.out⟩
def diff_price.f (k:Nat) (a0_0:Int) (a0_1:Int) (l0_2:List (S91)) (a1_0:Int) (a1_1:Int) (l1_2:List (S91)):Option (Int):=(attr_Same.f k l0_2 l1_2).bind fun t508=>(if t508 = true then (some 0) else (some 1))
set_option maxHeartbeats 8000000 in
set_option maxRecDepth 100000 in
theorem diff_price.calls (k:Nat) (a0_0:Int) (a0_1:Int) (A0_2:Option Addr) (c0_2:Nat) (l0_2:List (S91)) (a1_0:Int) (a1_1:Int) (A1_2:Option Addr) (c1_2:Nat) (l1_2:List (S91)) (r:Int) (w:World) (hr0_2:Kd.C k91 w A0_2 l0_2.length l0_2) (hc0_2:l0_2.length ≤ c0_2) (hr1_2:Kd.C k91 w A1_2 l1_2.length l1_2) (hc1_2:l1_2.length ≤ c1_2) (h:diff_price.f k a0_0 a0_1 l0_2 a1_0 a1_1 l1_2 = some r) :
 Calls Try.prog 134 #[.agg #[.int .i64 a0_0,.int .i64 a0_1,.slice A0_2 l0_2.length c0_2],.agg #[.int .i64 a1_0,.int .i64 a1_1,.slice A1_2 l1_2.length c1_2]] w fun e w'=>e = .returned (.int .i64 r) ∧ Below w.heap.size w w':=by
 have hu26:=Try.underlying26
 have HR0_2:=Aside0.mk hr0_2
 have HC0_2:=Aside0.mk hc0_2
 clear hr0_2 hc0_2
 have HR1_2:=Aside0.mk hr1_2
 have HC1_2:=Aside0.mk hc1_2
 clear hr1_2 hc1_2
 have HB:=Aside0.mk (Below.refl w.heap.size w)
 have H:((attr_Same.f k l0_2 l1_2).bind fun t508=>(if t508 = true then (some 0) else (some 1))) = some r:=h
 clear h
 replace H:=Option.bind_eq_some_iff.mp H
 obtain ⟨t508,A30,H⟩:=H
 replace H:(if t508 = true then (some 0) else (some 1)) = some r:=H
 have A3:=Aside0.mk A30
 clear A30
 by_cases c4:t508 = true
 ·subst c4
  have H1:(some 0) = some r:=by rw [if_pos rfl] at H;exact H
  clear H
  have H:=H1
  clear H1
  obtain rfl:=Option.some.inj H
  go_enter Try.func134,Try.ntmps134
  go_wp2_with (first | ((with_reducible refine gate_dst (N:=2) rfl ?_);refine box_event ?hg (N:=2) ?hd (cs:=#[.int .i64 a0_0,.int .i64 a0_1,.slice A0_2 l0_2.length c0_2]) (t:=26) ?hr ?_;(case hd=>rfl);(case hg=>rfl);(case hr=>(go_simp;done));intro gb506 hg w5 hbox hb;have n0_:=Aside0.mk (below_step (by with_reducible exact HB.out) hb);have n1_:=Aside0.mk hbox;have n2_:=Aside0.mk ((by rw [hg];exact (below_size (by with_reducible exact HB.out)):w.heap.size ≤ gb506));have n3_:=Aside0.mk ((by rw [hg];exact (below_size (by with_reducible exact HB.out)):w.heap.size ≤ gb506));clear HB;have HB:=n0_;have BK506:=n1_;have GW506:=n2_;have GE506:=n3_;clear n0_ n1_ n2_ n3_;clear hb hbox hg) | ((with_reducible refine gate_dst (N:=3) rfl ?_);refine box_event ?hg (N:=3) ?hd (cs:=#[.int .i64 a1_0,.int .i64 a1_1,.slice A1_2 l1_2.length c1_2]) (t:=26) ?hr ?_;(case hd=>rfl);(case hg=>rfl);(case hr=>(go_simp;done));intro gb507 hg w6 hbox hb;have n0_:=Aside0.mk (blk_below BK506.out hb);have n1_:=Aside0.mk (below_step HB.out hb);have n2_:=Aside0.mk hbox;have n3_:=Aside0.mk ((by rw [hg];exact (below_size HB.out):w.heap.size ≤ gb507));have n4_:=Aside0.mk ((by rw [hg];exact (below_size HB.out):w.heap.size ≤ gb507));have n5_:=Aside0.mk ((by rw [hg];exact Nat.ne_of_lt (blk_lt BK506.out):gb506 ≠ gb507));have n6_:=Aside0.mk ((by rw [hg];exact Nat.ne_of_gt (blk_lt BK506.out):gb507 ≠ gb506));clear BK506;clear HB;have BK506:=n0_;have HB:=n1_;have BK507:=n2_;have GW507:=n3_;have GE507:=n4_;have NB506_507:=n5_;have NB507_506:=n6_;clear n0_ n1_ n2_ n3_ n4_ n5_ n6_;clear hb hbox hg;have hnb7:=NB506_507.out;have hnc7:=NB507_506.out;have hcz8_0:w6.cell? ⟨gb506,0,none⟩ = some (.int .i64 a0_0):=(blk_cell BK506.out 0).trans rfl;have hcz8_1:w6.cell? ⟨gb506,1,none⟩ = some (.int .i64 a0_1):=(blk_cell BK506.out 1).trans rfl;have hcz8_2:w6.cell? ⟨gb506,2,none⟩ = some (.slice A0_2 l0_2.length c0_2):=(blk_cell BK506.out 2).trans rfl;have hfz8_0:=blk_frozen BK506.out 0;have hfz8_1:=blk_frozen BK506.out 1;have hfz8_2:=blk_frozen BK506.out 2;have hcz9_0:w6.cell? ⟨gb507,0,none⟩ = some (.int .i64 a1_0):=(blk_cell BK507.out 0).trans rfl;have hcz9_1:w6.cell? ⟨gb507,1,none⟩ = some (.int .i64 a1_1):=(blk_cell BK507.out 1).trans rfl;have hcz9_2:w6.cell? ⟨gb507,2,none⟩ = some (.slice A1_2 l1_2.length c1_2):=(blk_cell BK507.out 2).trans rfl;have hfz9_0:=blk_frozen BK507.out 0;have hfz9_1:=blk_frozen BK507.out 1;have hfz9_2:=blk_frozen BK507.out 2) | ((with_reducible refine gate_callee (f:=105) rfl ?_);refine goesL_ (some 9) rfl rfl Try.func105 (by kernel_rfl) rfl #[.slice A0_2 l0_2.length c0_2,.slice A1_2 l1_2.length c1_2] rfl (by (try simp only [List.map_toArray,List.map_cons,List.map_nil]);rfl) ?_;(with_reducible refine (attr_Same.calls k _ _ l0_2 _ _ l1_2 true _ ?side1 ?side2 ?side3 ?side4 A3.out).mono ?_);(case side1=>repeat (exact (Kd.C_below HR0_2.out HB.out)));(case side2=>exact HC0_2.out);(case side3=>repeat (exact (Kd.C_below HR1_2.out HB.out)));(case side4=>exact HC1_2.out);rintro e w' ⟨rfl,⟨nd,rfl⟩⟩;refine ⟨_,rfl,?_⟩))
  go_ret
  exact ⟨by rfl,by repeat ((with_reducible first | exact HB.out | apply pw_below_drewN))⟩
 ·replace c4:=Bool.eq_false_iff.mpr c4
  subst c4
  have H1:(some 1) = some r:=by rw [if_neg (show ¬ (false = true) by decide)] at H;exact H
  clear H
  have H:=H1
  clear H1
  obtain rfl:=Option.some.inj H
  go_enter Try.func134,Try.ntmps134
  go_wp2_with (first | ((with_reducible refine gate_dst (N:=2) rfl ?_);refine box_event ?hg (N:=2) ?hd (cs:=#[.int .i64 a0_0,.int .i64 a0_1,.slice A0_2 l0_2.length c0_2]) (t:=26) ?hr ?_;(case hd=>rfl);(case hg=>rfl);(case hr=>(go_simp;done));intro gb506 hg w10 hbox hb;have n0_:=Aside0.mk (below_step (by with_reducible exact HB.out) hb);have n1_:=Aside0.mk hbox;have n2_:=Aside0.mk ((by rw [hg];exact (below_size (by with_reducible exact HB.out)):w.heap.size ≤ gb506));have n3_:=Aside0.mk ((by rw [hg];exact (below_size (by with_reducible exact HB.out)):w.heap.size ≤ gb506));clear HB;have HB:=n0_;have BK506:=n1_;have GW506:=n2_;have GE506:=n3_;clear n0_ n1_ n2_ n3_;clear hb hbox hg) | ((with_reducible refine gate_dst (N:=3) rfl ?_);refine box_event ?hg (N:=3) ?hd (cs:=#[.int .i64 a1_0,.int .i64 a1_1,.slice A1_2 l1_2.length c1_2]) (t:=26) ?hr ?_;(case hd=>rfl);(case hg=>rfl);(case hr=>(go_simp;done));intro gb507 hg w11 hbox hb;have n0_:=Aside0.mk (blk_below BK506.out hb);have n1_:=Aside0.mk (below_step HB.out hb);have n2_:=Aside0.mk hbox;have n3_:=Aside0.mk ((by rw [hg];exact (below_size HB.out):w.heap.size ≤ gb507));have n4_:=Aside0.mk ((by rw [hg];exact (below_size HB.out):w.heap.size ≤ gb507));have n5_:=Aside0.mk ((by rw [hg];exact Nat.ne_of_lt (blk_lt BK506.out):gb506 ≠ gb507));have n6_:=Aside0.mk ((by rw [hg];exact Nat.ne_of_gt (blk_lt BK506.out):gb507 ≠ gb506));clear BK506;clear HB;have BK506:=n0_;have HB:=n1_;have BK507:=n2_;have GW507:=n3_;have GE507:=n4_;have NB506_507:=n5_;have NB507_506:=n6_;clear n0_ n1_ n2_ n3_ n4_ n5_ n6_;clear hb hbox hg;have hnb12:=NB506_507.out;have hnc12:=NB507_506.out;have hcz13_0:w11.cell? ⟨gb506,0,none⟩ = some (.int .i64 a0_0):=(blk_cell BK506.out 0).trans rfl;have hcz13_1:w11.cell? ⟨gb506,1,none⟩ = some (.int .i64 a0_1):=(blk_cell BK506.out 1).trans rfl;have hcz13_2:w11.cell? ⟨gb506,2,none⟩ = some (.slice A0_2 l0_2.length c0_2):=(blk_cell BK506.out 2).trans rfl;have hfz13_0:=blk_frozen BK506.out 0;have hfz13_1:=blk_frozen BK506.out 1;have hfz13_2:=blk_frozen BK506.out 2;have hcz14_0:w11.cell? ⟨gb507,0,none⟩ = some (.int .i64 a1_0):=(blk_cell BK507.out 0).trans rfl;have hcz14_1:w11.cell? ⟨gb507,1,none⟩ = some (.int .i64 a1_1):=(blk_cell BK507.out 1).trans rfl;have hcz14_2:w11.cell? ⟨gb507,2,none⟩ = some (.slice A1_2 l1_2.length c1_2):=(blk_cell BK507.out 2).trans rfl;have hfz14_0:=blk_frozen BK507.out 0;have hfz14_1:=blk_frozen BK507.out 1;have hfz14_2:=blk_frozen BK507.out 2) | ((with_reducible refine gate_callee (f:=105) rfl ?_);refine goesL_ (some 9) rfl rfl Try.func105 (by kernel_rfl) rfl #[.slice A0_2 l0_2.length c0_2,.slice A1_2 l1_2.length c1_2] rfl (by (try simp only [List.map_toArray,List.map_cons,List.map_nil]);rfl) ?_;(with_reducible refine (attr_Same.calls k _ _ l0_2 _ _ l1_2 false _ ?side1 ?side2 ?side3 ?side4 A3.out).mono ?_);(case side1=>repeat (exact (Kd.C_below HR0_2.out HB.out)));(case side2=>exact HC0_2.out);(case side3=>repeat (exact (Kd.C_below HR1_2.out HB.out)));(case side4=>exact HC1_2.out);rintro e w' ⟨rfl,⟨nd,rfl⟩⟩;refine ⟨_,rfl,?_⟩))
  go_ret
  exact ⟨by rfl,by repeat ((with_reducible first | exact HB.out | apply pw_below_drewN))⟩
mutual
def diff_table.l0:Nat → List (S26) → List (S26) → List (List Int) → Int → Option ((List (List Int)))
 | 0,_,_,_,_=>none
 | k + 1,x0,x1,x5,x6=>if x6 ≥ 0 then (if 0 ≤ (wrap64 ((x1.length:Int) + 1)) then (if (wrap64 ((x1.length:Int) + 1):Int).toNat ≤ 35184372088832 then (if 0 ≤ x6 then (if x6 < (x5.length:Int) then (diff_table.l1 k x0 x1 (x5.set (x6:Int).toNat (List.replicate (wrap64 ((x1.length:Int) + 1):Int).toNat 0)) x6 (x1.length:Int)) else (none)) else (none)) else (none)) else (none)) else (some x5)
def diff_table.l1:Nat → List (S26) → List (S26) → List (List Int) → Int → Int → Option ((List (List Int)))
 | 0,_,_,_,_,_=>none
 | k + 1,x0,x1,x5,x6,x7=>if x7 ≥ 0 then (if x6 = (x0.length:Int) then (if 0 ≤ x6 then (if x6 < (x5.length:Int) then (if 0 ≤ x7 then (if x7 < ((rd_L10 x5 x6).length:Int) then (diff_table.l1 k x0 x1 (x5.set (x6:Int).toNat ((rd_L10 x5 x6).set (x7:Int).toNat (wrap64 ((x1.length:Int) - x7)))) x6 (wrap64 (x7 - 1))) else (none)) else (none)) else (none)) else (none)) else (if x7 = (x1.length:Int) then (if 0 ≤ x6 then (if x6 < (x5.length:Int) then (if 0 ≤ x7 then (if x7 < ((rd_L10 x5 x6).length:Int) then (diff_table.l1 k x0 x1 (x5.set (x6:Int).toNat ((rd_L10 x5 x6).set (x7:Int).toNat (wrap64 ((x0.length:Int) - x6)))) x6 (wrap64 (x7 - 1))) else (none)) else (none)) else (none)) else (none)) else (if 0 ≤ x6 then (if x6 < (x5.length:Int) then (if 0 ≤ (wrap64 (x6 + 1)) then (if (wrap64 (x6 + 1)) < (x5.length:Int) then (if 0 ≤ x7 then (if x7 < ((rd_L10 x5 (wrap64 (x6 + 1))).length:Int) then (if 0 ≤ (wrap64 (x7 + 1)) then (if (wrap64 (x7 + 1)) < ((rd_L10 x5 x6).length:Int) then (if x7 < ((rd_L10 x5 x6).length:Int) then ((some (x5.set (x6:Int).toNat ((rd_L10 x5 x6).set (x7:Int).toNat (wrap64 (1 + (mn (rd (rd_L10 x5 (wrap64 (x6 + 1))) x7) (rd (rd_L10 x5 x6) (wrap64 (x7 + 1))))))):List (List Int))).bind fun y531=>(if x6 < (x0.length:Int) then (if x7 < (x1.length:Int) then ((diff_alike.f ((rd_T26 x0 x6).f0) ((rd_T26 x0 x6).f1) ((rd_T26 x0 x6).f2) ((rd_T26 x1 x7).f0) ((rd_T26 x1 x7).f1) ((rd_T26 x1 x7).f2)).bind fun t534=>(if t534 = true then (if x7 < ((rd_L10 y531 x6).length:Int) then (if (wrap64 (x7 + 1)) < ((rd_L10 y531 (wrap64 (x6 + 1))).length:Int) then ((diff_price.f k ((rd_T26 x0 x6).f0) ((rd_T26 x0 x6).f1) ((rd_T26 x0 x6).f2) ((rd_T26 x1 x7).f0) ((rd_T26 x1 x7).f1) ((rd_T26 x1 x7).f2)).bind fun t542=>(diff_table.l1 k x0 x1 (y531.set (x6:Int).toNat ((rd_L10 y531 x6).set (x7:Int).toNat (mn (rd (rd_L10 y531 x6) x7) (wrap64 ((rd (rd_L10 y531 (wrap64 (x6 + 1))) (wrap64 (x7 + 1))) + t542))))) x6 (wrap64 (x7 - 1)))) else (none)) else (none)) else (diff_table.l1 k x0 x1 y531 x6 (wrap64 (x7 - 1))))) else (none)) else (none))) else (none)) else (none)) else (none)) else (none)) else (none)) else (none)) else (none)) else (none)) else (none)))) else (diff_table.l0 k x0 x1 x5 (wrap64 (x6 - 1)))
end
def diff_table.f (k:Nat) (l0:List (S26)) (l1:List (S26)):Option ((List (List Int))):=if 0 ≤ (wrap64 ((l0.length:Int) + 1)) then (if (wrap64 ((l0.length:Int) + 1):Int).toNat ≤ 11728124029610 then (diff_table.l0 k l0 l1 (List.replicate (wrap64 ((l0.length:Int) + 1):Int).toNat []) (l0.length:Int)) else (none)) else (none)
def diff_table.T9:Bool × List (List Nat × List Nat):=(true,[([],[]),([],[]),([0,1],[0,1]),([2],[2]),([],[]),([],[]),([],[]),([6],[6]),([5,7],[5,7]),([8],[8]),([],[]),([9,10],[9,10]),([11],[11]),([],[]),([],[]),([13,14],[13,14]),([15],[15]),([],[]),([17],[17]),([16,18],[16,18]),([19],[19]),([12,20],[12,20]),([21],[21]),([3,4,0,1,2,3,4,5,6,7,8,9,10,11,12,13,14,15,16,17,18,19,20,21,22],[3,4]),([23,22,0,1,2,3,4,5,6,7,8,9,10,11,12,13,14,15,16,17,18,19,20,21,22],[22,23])])
def diff_table.B9:List Nat:=[0,0,3,7,0,0,0,64,224,480,0,2016,4064,0,0,24576,57344,0,131072,516096,1040384,2097120,4194272,8388607,16777215]
theorem diff_table.tab9:rtab .any (opsOf Try.f132 9) = diff_table.T9:=by kernel_rfl
theorem diff_table.bits9:waitsOk diff_table.T9.2 diff_table.B9 = true:=by kernel_rfl
def diff_table.T10:Bool × List (List Nat × List Nat):=(true,[([],[]),([],[]),([0,1],[0,1]),([2],[2]),([],[]),([],[]),([4,5],[4,5]),([6],[6]),([3,7],[3,7])])
def diff_table.B10:List Nat:=[0,0,3,7,0,0,48,112,255]
theorem diff_table.tab10:rtab .any (opsOf Try.f132 10) = diff_table.T10:=by kernel_rfl
theorem diff_table.bits10:waitsOk diff_table.T10.2 diff_table.B10 = true:=by kernel_rfl
def diff_table.T11:Bool × List (List Nat × List Nat):=(true,[([],[]),([],[]),([0,1],[0,1]),([2],[2]),([],[]),([],[]),([],[]),([5,6],[5,6]),([7],[7]),([],[]),([8,9],[8,9]),([10],[10]),([],[]),([],[]),([13],[13]),([12,14],[12,14]),([15],[15]),([],[]),([17],[17]),([16,18],[16,18]),([19],[19]),([],[]),([],[]),([21,22],[21,22]),([23],[23]),([],[]),([],[]),([25,26],[25,26]),([27],[27]),([24,28],[24,28]),([20,29],[20,29]),([11,30],[11,30]),([3,4,0,1,2,3,4,5,6,7,8,9,10,11,12,13,14,15,16,17,18,19,20,21,22,23,24,25,26,27,28,29,30,31],[3,4]),([32,31,29,0,1,2,3,4,5,6,7,8,9,10,11,12,13,14,15,16,17,18,19,20,21,22,23,24,25,26,27,28,29,30,31],[31,32])])
def diff_table.B11:List Nat:=[0,0,3,7,0,0,0,96,224,0,992,2016,0,0,8192,28672,61440,0,131072,520192,1044480,0,0,6291456,14680064,0,0,100663296,234881024,534773760,1073737728,2147483616,4294967295,8589934591]
theorem diff_table.tab11:rtab .any (opsOf Try.f132 11) = diff_table.T11:=by kernel_rfl
theorem diff_table.bits11:waitsOk diff_table.T11.2 diff_table.B11 = true:=by kernel_rfl
set_option maxHeartbeats 8000000 in
set_option maxRecDepth 100000 in
theorem diff_table.calls (k:Nat) (A0:Option Addr) (c0:Nat) (l0:List (S26)) (A1:Option Addr) (c1:Nat) (l1:List (S26)) (r:List (List Int)) (w:World) (hr0:Kd.C k26 w A0 l0.length l0) (hc0:l0.length ≤ c0) (hr1:Kd.C k26 w A1 l1.length l1) (hc1:l1.length ≤ c1) (h:diff_table.f k l0 l1 = some r) :
 Calls Try.prog 132 #[.slice A0 l0.length c0,.slice A1 l1.length c1] w fun e w'=>∃ v0_:Value,e = .returned (v0_) ∧ Kd.S (Kd.slice 3 (Kd.int .i64)) 35 w' w.heap.size (fun _=>True) v0_ r ∧ Below w.heap.size w w':=by
 have hu26:=Try.underlying26
 have HR0:=Aside0.mk hr0
 have HC0:=Aside0.mk hc0
 clear hr0 hc0
 have HR1:=Aside0.mk hr1
 have HC1:=Aside0.mk hc1
 clear hr1 hc1
 have HB:=Aside0.mk (Below.refl w.heap.size w)
 have H:(if 0 ≤ (wrap64 ((l0.length:Int) + 1)) then (if (wrap64 ((l0.length:Int) + 1):Int).toNat ≤ 11728124029610 then (diff_table.l0 k l0 l1 (List.replicate (wrap64 ((l0.length:Int) + 1):Int).toNat []) (l0.length:Int)) else (none)) else (none)) = some r:=h
 clear h
 obtain ⟨ji3,hji3⟩:∃ j_:Int,(wrap64 ((l0.length:Int) + 1)) = j_:=⟨_,rfl⟩
 replace H:(if 0 ≤ (ji3) then (if (ji3:Int).toNat ≤ 11728124029610 then (diff_table.l0 k l0 l1 (List.replicate (ji3:Int).toNat []) (l0.length:Int)) else (none)) else (none)) = some r:=by (rw [hji3] at H;exact H)
 have hji3w:(IntKind.i64.wrap ((l0.length:Int) + 1)) = ji3:=(i64_w _).trans hji3
 by_cases c4:0 ≤ (ji3)
 ·rw [if_pos c4] at H
  have c4b0:=eq_true c4
  have c4b1:decide (0 ≤ (ji3)) = true:=decide_eq_true c4
  clear c4
  by_cases c5:(ji3:Int).toNat ≤ 11728124029610
  ·rw [if_pos c5] at H
   have c5b0:=eq_true c5
   have c5b1:decide ((ji3:Int).toNat ≤ 11728124029610) = true:=decide_eq_true c5
   clear c5
   obtain ⟨y509,hy509⟩:∃ y_:List (List Int),y_ = (List.replicate (ji3:Int).toNat []):=⟨_,rfl⟩
   replace H:(diff_table.l0 k l0 l1 y509 (l0.length:Int)) = some r:=by (rw [hy509];with_reducible exact H)
   have Ny509:=Aside0.mk hy509
   clear hy509
   have H':=Aside0.mk H
   clear H
   go_enter Try.func132,Try.ntmps132
   go_wp2_with (((with_reducible refine gate_dst (N:=11) rfl ?_);refine Kd.S_make (Kd.slice 3 (Kd.int .i64)) _ 35 rfl (N:=11) rfl 199 _ _ rfl ji3 rfl rfl Try.underlying199 (.slice none 0 0) 24 info35 rfl (by decide) (by omega) [] (ok:=fun _=>True) (okp:=fun _=>True) ⟨_,rfl,Kd.R_nil _ _ _ _ _⟩ (fun _ hk=>hk) trivial (of_decide_eq_true (by assumption)) (Nat.le_trans (Nat.mul_le_mul_right _ (of_decide_eq_true (by assumption):ji3.toNat ≤ 11728124029610)) (by omega)) (Below.refl _ _) (Nat.le_refl _) ?_;intro v510 w6 ho7 hb hg_ hnew_;clear hg_ hnew_;(rw [← Ny509.out] at ho7);have n0_:=Aside0.mk (Kd.S_lower ho7 (below_size (by with_reducible exact HB.out)));have n1_:=Aside0.mk (below_step (by with_reducible exact HB.out) hb);clear HB;have HO511:=n0_;have HB:=n1_;clear n0_ n1_;clear hb ho7))
   go_loopg [6] k (fun kq v6 w'=>∃ (x5_1:List (List Int)) (x6_1:Int),v6 = .int .i64 x6_1 ∧ Aside0 (diff_table.l0 kq l0 l1 x5_1 x6_1 = some r) ∧ Aside0 (kq ≤ k) ∧ Aside0 (Kd.S (Kd.slice 3 (Kd.int .i64)) 35 w' w.heap.size (fun _=>True) v510 x5_1) ∧ Aside0 (Below w.heap.size w w'))
   case atStart=>exact ⟨(y509),((l0.length:Int)),(by rfl),H',⟨Nat.le_refl _⟩,⟨by exact HO511.out⟩,⟨HB.out⟩⟩
   case round =>
    clear H'
    try clear c4b0
    try clear c4b1
    try clear c5b0
    try clear c5b1
    obtain ⟨x5_1,x6_1,rfl,HA,HK1,HO_5,HB⟩:=hrel
    cases gk with
    | zero=>exact absurd HA.out (by simp [diff_table.l0])
    | succ k1 =>
     have H:=HA.out
     clear HA
     simp only [diff_table.l0] at H
     by_cases c8:x6_1 ≥ 0
     ·rw [if_pos c8] at H
      have c8b0:decide (0 ≤ x6_1) = true:=decide_eq_true c8
      clear c8
      obtain ⟨ji9,hji9⟩:∃ j_:Int,(wrap64 ((l1.length:Int) + 1)) = j_:=⟨_,rfl⟩
      replace H:(if 0 ≤ (ji9) then (if (ji9:Int).toNat ≤ 35184372088832 then (if 0 ≤ x6_1 then (if x6_1 < (x5_1.length:Int) then (diff_table.l1 k1 l0 l1 (x5_1.set (x6_1:Int).toNat (List.replicate (ji9:Int).toNat 0)) x6_1 (l1.length:Int)) else (none)) else (none)) else (none)) else (none)) = some r:=by (rw [hji9] at H;exact H)
      have hji9w:(IntKind.i64.wrap ((l1.length:Int) + 1)) = ji9:=(i64_w _).trans hji9
      by_cases c10:0 ≤ (ji9)
      ·rw [if_pos c10] at H
       have c10b0:=eq_true c10
       have c10b1:decide (0 ≤ (ji9)) = true:=decide_eq_true c10
       clear c10
       by_cases c11:(ji9:Int).toNat ≤ 35184372088832
       ·rw [if_pos c11] at H
        have c11b0:=eq_true c11
        have c11b1:decide ((ji9:Int).toNat ≤ 35184372088832) = true:=decide_eq_true c11
        clear c11
        obtain ⟨y512,hy512⟩:∃ y_:List Int,y_ = (List.replicate (ji9:Int).toNat 0):=⟨_,rfl⟩
        replace H:(if 0 ≤ x6_1 then (if x6_1 < (x5_1.length:Int) then (diff_table.l1 k1 l0 l1 (x5_1.set (x6_1:Int).toNat y512) x6_1 (l1.length:Int)) else (none)) else (none)) = some r:=by (rw [hy512];with_reducible exact H)
        have Ny512:=Aside0.mk hy512
        clear hy512
        by_cases c12:0 ≤ x6_1
        ·rw [if_pos c12] at H
         have c12b0:decide (0 ≤ x6_1) = true:=decide_eq_true c12
         clear c12
         by_cases c13:x6_1 < (x5_1.length:Int)
         ·rw [if_pos c13] at H
          have c13b0:decide (x6_1 < (x5_1.length:Int)) = true:=decide_eq_true c13
          clear c13
          obtain ⟨y515,hy515⟩:∃ y_:List (List Int),y_ = (x5_1.set (x6_1:Int).toNat y512):=⟨_,rfl⟩
          replace H:(diff_table.l1 k1 l0 l1 y515 x6_1 (l1.length:Int)) = some r:=by (rw [hy515];with_reducible exact H)
          have Ny515:=Aside0.mk hy515
          clear hy515
          have H':=Aside0.mk H
          clear H
          go_wp2_with (first | ((with_reducible refine gate_dst (N:=23) rfl ?_);refine Kd.R_make (Kd.int .i64) _ 3 rfl (N:=23) rfl 35 _ _ rfl ji9 rfl rfl Try.underlying35 (.int .i64 0) 8 info3 rfl (by decide) (by omega) 0 (ok:=fun _=>True) (okp:=fun _=>True) rfl (fun _ hk=>hk) trivial (of_decide_eq_true (by assumption)) (Nat.le_trans (Nat.mul_le_mul_right _ (of_decide_eq_true (by assumption):ji9.toNat ≤ 35184372088832)) (by omega)) (Below.refl _ _) (Nat.le_refl _) ?_;intro v513 w15 ho16 hb hg_ hnew_;clear hg_ hnew_;(rw [← Ny512.out] at ho16);have n0_:=Aside0.mk (Kd.S_elder' HO_5.out (Kd.R_base ho16) hb);have n1_:=Aside0.mk (Kd.R_lower ho16 (below_size (by with_reducible exact HB.out)));have n2_:=Aside0.mk (below_step (by with_reducible exact HB.out) hb);clear HO_5;clear HB;have HO_5:=n0_;have HO514:=n1_;have HB:=n2_;clear n0_ n1_ n2_;clear hb ho16;have p14:0 ≤ (x6_1:Int):=of_decide_eq_true (by assumption);have q14:(x6_1:Int) < ((x5_1.length:Int):Int):=of_decide_eq_true (by assumption);obtain ⟨go14,co14,eo14,gb14,gl14,cl14,HG14⟩:=Kd.S_form HO_5.out (by omega);(first | cases eo14 | (injection eo14 with ea_ en_ ec_;(first | subst ea_ | (injection ea_ with ea_;subst ea_));subst ec_;clear en_));have GB14:=Aside0.mk gb14;have GG14:=Aside0.mk HG14;clear gb14 gl14 HG14;obtain ⟨_,ce14,hcl14,hM14,hcc14,hfr14,_,_⟩:=Kd.S_elem HO_5.out [] (x6_1:Int) p14 q14;obtain ⟨ve14_0,rfl,ge14_0⟩:=hM14;have hx14_0:=hcc14 0 _ rfl;have hf14_0:=hfr14 0;(try simp only [show ((Kd.slice 3 (Kd.int .i64))).sz = 1 from rfl,Nat.mul_one,Nat.add_zero] at hx14_0);(try simp only [show ((Kd.slice 3 (Kd.int .i64))).sz = 1 from rfl,Nat.mul_one,Nat.add_zero] at hf14_0);clear hcl14 hcc14 hfr14;replace p14:=eq_true p14;replace q14:=eq_true q14;have n_:=Aside0.mk (Kd.S_mono (ok':=(fun k_=>some k_ ≠ (v513:Value).ownBlock)) HO_5.out (fun k_ hk=>hk.2));clear HO_5;have HO_5:=n_;clear n_;have HX17:=Aside0.mk (show Kd.S (Kd.slice 3 (Kd.int .i64)) 35 w15 w.heap.size (fun k_=>((fun _=>True)) k_ ∧ ¬ ((fun k_=>some k_ = (v513:Value).ownBlock)) k_) (.slice (some ⟨go14,0,none⟩) x5_1.length co14) x5_1 from (by exact Kd.S_mono HO_5.out (fun k_ hk=>⟨trivial,fun e_=>hk e_⟩)));obtain ⟨oki17,ce17,hcl17,hM17,hcc17,hfr17,hoki17,hH17⟩:=Kd.S_elem HX17.out [] (x6_1:Int) (of_decide_eq_true (by assumption)) (by have h_:(x6_1:Int) < ((x5_1.length:Int):Int):=of_decide_eq_true (by assumption);exact h_);obtain ⟨ve17_0,rfl,ge17_0⟩:=hM17;have HP17:=Kd.S_seg hH17 (of_decide_eq_true (by assumption)) (by have h_:(x6_1:Int) < ((x5_1.length:Int):Int):=of_decide_eq_true (by assumption);exact h_) (seg:=[v513]) (j:=0) (show 1 ≤ 1 from by decide) (x':=y512) (Kd.M_row (Kd.R_mono (Kd.R_tight rfl (Kd.R_mono (ok':=fun k_=>((fun _=>True)) k_ ∧ k_ ≠ go14) (Kd.R_apart' (HO514.out) (Kd.S_typed HO_5.out) (by decide)) (fun k_ hk=>⟨trivial,fun e_=>(hk.2) (by rw [e_];rfl)⟩))) (fun _ h_=>Or.inr (h_)))) (fun _ hk=>hk) (fun k_ hk_=>((Kd.R_mono (ok':=fun k_=>((fun _=>True)) k_ ∧ k_ ≠ go14) (Kd.R_apart' (HO514.out) (Kd.S_typed HO_5.out) (by decide)) (fun k_ hk=>⟨trivial,fun e_=>(hk.2) (by rw [e_];rfl)⟩))).1 k_ hk_.symm);have hx17_0:=hcc17 0 _ rfl;(try simp only [show ((Kd.slice 3 (Kd.int .i64))).sz = 1 from rfl,Nat.mul_one,Nat.add_zero] at hx17_0);have hf17_0:=hfr17 0;(try simp only [show ((Kd.slice 3 (Kd.int .i64))).sz = 1 from rfl,Nat.mul_one,Nat.add_zero] at hf17_0);clear hcl17 hcc17 hfr17 hoki17 hH17;(try simp only [show ((Kd.slice 3 (Kd.int .i64))).sz = 1 from rfl,Nat.mul_one,Nat.add_zero] at HP17);obtain ⟨Av_,cv_,ev_⟩:=Kd.R_slice HO514.out;subst ev_) | ((with_reducible refine gate_store (t:=35) (p:=24) rfl ?_);refine store_event (t:=35) (p:=24) (v:=?vo_w18) (w1:=(w15.setCell ⟨go14,(x6_1:Int).toNat,none⟩ (.slice Av_ y512.length cv_))) ?hg ?ho ?hn ?hr ?_;(case ho=>rfl);(case hg=>rfl);(case hn=>rfl);(case hr=>(go_simp;done));intro w18 hw;have hg:w15.grownBy w18 (some go14):=(by rw [hw];exact HP17.2);have hp_:Kd.S (Kd.slice 3 (Kd.int .i64)) 35 w18 w.heap.size (fun _=>True) (.slice (some ⟨go14,0,none⟩) x5_1.length co14) y515:=(by rw [hw,Ny515.out];exact HP17.1);clear HP17;have n0_:=Aside0.mk hp_;have n1_:=Aside0.mk ((by rw [hw];exact below_set (HB.out) GB14.out:Below w.heap.size w w18));clear HO_5;clear HB;clear HO514;have HO_5:=n0_;have HB:=n1_;clear n0_ n1_;clear hg hw hp_))
          go_loopg [7] k1 (fun kq v7 w'=>∃ (x5_2:List (List Int)) (x7_2:Int),v7 = .int .i64 x7_2 ∧ Aside0 (diff_table.l1 kq l0 l1 x5_2 x6_1 x7_2 = some r) ∧ Aside0 (kq ≤ k1) ∧ Aside0 (Kd.S (Kd.slice 3 (Kd.int .i64)) 35 w' w.heap.size (fun _=>True) (.slice (some ⟨go14,0,none⟩) x5_1.length co14) x5_2) ∧ Aside0 (Below w.heap.size w w'))
          case atStart=>exact ⟨(y515),((l1.length:Int)),(by rfl),H',⟨Nat.le_refl _⟩,⟨by exact HO_5.out⟩,⟨HB.out⟩⟩
          case round =>
           clear H'
           try clear c8b0
           try clear c10b0
           try clear c10b1
           try clear c11b0
           try clear c11b1
           try clear c12b0
           try clear c13b0
           try clear p14
           try clear q14
           try clear hx14_0
           try clear hx17_0
           obtain ⟨x5_2,x7_2,rfl,HA,HK2,HO_5,HB⟩:=hrel
           have hl5_2:=(Kd.S_reads' HO_5.out).1
           rw [hl5_2] at HO_5
           (try simp only [hl5_2])
           cases gk with
           | zero=>exact absurd HA.out (by simp [diff_table.l1])
           | succ k2 =>
            have H:=HA.out
            clear HA
            simp only [diff_table.l1] at H
            by_cases c19:x7_2 ≥ 0
            ·rw [if_pos c19] at H
             have c19b0:decide (0 ≤ x7_2) = true:=decide_eq_true c19
             clear c19
             by_cases c20:x6_1 = (l0.length:Int)
             ·rw [if_pos c20] at H
              have c20b0:(x6_1 == (l0.length:Int)) = true:=beq_iff_eq.mpr c20
              have c20b1:(x6_1 != (l0.length:Int)) = false:=bne_eq_false_iff_eq.mpr c20
              clear c20
              by_cases c21:0 ≤ x6_1
              ·rw [if_pos c21] at H
               have c21b0:decide (0 ≤ x6_1) = true:=decide_eq_true c21
               clear c21
               by_cases c22:x6_1 < (x5_2.length:Int)
               ·rw [if_pos c22] at H
                have c22b0:decide (x6_1 < (x5_2.length:Int)) = true:=decide_eq_true c22
                clear c22
                by_cases c23:0 ≤ x7_2
                ·rw [if_pos c23] at H
                 have c23b0:decide (0 ≤ x7_2) = true:=decide_eq_true c23
                 clear c23
                 by_cases c24:x7_2 < ((rd_L10 x5_2 x6_1).length:Int)
                 ·rw [if_pos c24] at H
                  have c24b0:decide (x7_2 < ((rd_L10 x5_2 x6_1).length:Int)) = true:=decide_eq_true c24
                  clear c24
                  obtain ⟨y517,hy517⟩:∃ y_:List Int,y_ = ((rd_L10 x5_2 x6_1).set (x7_2:Int).toNat (wrap64 ((l1.length:Int) - x7_2))):=⟨_,rfl⟩
                  replace H:(diff_table.l1 k2 l0 l1 (x5_2.set (x6_1:Int).toNat y517) x6_1 (wrap64 (x7_2 - 1))) = some r:=by (rw [hy517];with_reducible exact H)
                  have Ny517:=Aside0.mk hy517
                  clear hy517
                  obtain ⟨y519,hy519⟩:∃ y_:List (List Int),y_ = (x5_2.set (x6_1:Int).toNat y517):=⟨_,rfl⟩
                  replace H:(diff_table.l1 k2 l0 l1 y519 x6_1 (wrap64 (x7_2 - 1))) = some r:=by (rw [hy519];with_reducible exact H)
                  have Ny519:=Aside0.mk hy519
                  clear hy519
                  have H':=Aside0.mk H
                  clear H
                  have p516:0 ≤ (x6_1:Int):=of_decide_eq_true (by assumption)
                  have q516:x6_1 < (x5_2.length:Int):=of_decide_eq_true (by assumption)
                  obtain ⟨ad516,A516_0,c516_0,e516,hx516_0,hl516_0,hi516_0⟩:=at_L10 (Kd.S_reads' HO_5.out).2.2 x6_1 p516 q516
                  obtain rfl:(⟨go14,0,none⟩:Addr) = ad516:=(by injection e516)
                  obtain ⟨ce516,hce516,hMe516,hcc516⟩:=Kd.S_get HO_5.out [] x6_1 p516 q516
                  obtain ⟨ve516_0,rfl,ge516_0⟩:=hMe516
                  have hv516_0:=hcc516 0 _ rfl
                  rw [Nat.add_zero,show ((Kd.slice 3 (Kd.int .i64))).sz = 1 from rfl,Nat.mul_one] at hv516_0
                  replace hv516_0:=Option.some.inj (hv516_0.symm.trans hx516_0)
                  rw [hv516_0] at ge516_0
                  have HL516_0:=Aside0.mk (show Kd.R (Kd.int .i64) 3 _ _ _ _ (rd_L10 x5_2 x6_1) from ge516_0)
                  clear hv516_0 ge516_0
                  have HX516_0:=Aside0.mk hx516_0
                  clear hcc516 hce516
                  (simp only [add_plain] at hx516_0)
                  have HR516_0:=Aside0.mk hi516_0
                  have HC516_0:=Aside0.mk hl516_0
                  clear hi516_0 hl516_0
                  replace p516:=eq_true p516
                  replace q516:=eq_true q516
                  have p25:0 ≤ (x7_2:Int):=of_decide_eq_true (by assumption)
                  have q25:(x7_2:Int) < (((rd_L10 x5_2 x6_1).length:Int):Int):=of_decide_eq_true (by assumption)
                  obtain ⟨go25,co25,eo25,gb25,gl25,cl25,HG25⟩:=Kd.R_form HL516_0.out (by omega)
                  (first | cases eo25 | (injection eo25 with ea_ en_ ec_;(first | subst ea_ | (injection ea_ with ea_;subst ea_));subst ec_;clear en_))
                  have GB25:=Aside0.mk gb25
                  have GG25:=Aside0.mk HG25
                  clear gb25 gl25 HG25
                  obtain ⟨hx25_0,hf25_0⟩:=Kd.R_celln 0 HL516_0.out (x7_2:Int) p25 q25
                  replace p25:=eq_true p25
                  replace q25:=eq_true q25
                  have hq26:(x6_1:Int) < (x5_2.length:Int):=(by have h_:(x6_1:Int) < ((x5_2.length:Int):Int):=of_decide_eq_true (by assumption);exact h_)
                  obtain ⟨oki26,ce26,hcl26,hM26,hcc26,hok26,hbk26⟩:=Kd.S_borrow HO_5.out [] (x6_1:Int) (of_decide_eq_true (by assumption)) hq26
                  obtain ⟨ve26_0,rfl,ge26_0⟩:=hM26
                  have hv26:=hcc26 0 _ rfl
                  rw [Nat.add_zero,show ((Kd.slice 3 (Kd.int .i64))).sz = 1 from rfl,Nat.mul_one] at hv26
                  replace hv26:=Option.some.inj (hv26.symm.trans HX516_0.out)
                  subst hv26
                  clear hcc26 hcl26
                  replace ge26_0:=(show Kd.R (Kd.int .i64) 3 _ _ _ _ (rd_L10 x5_2 x6_1) from ge26_0)
                  have HP26:=Kd.R_putg ge26_0 (x7_2:Int) (wrap64 ((l1.length:Int) - x7_2))
                  go_wp2_with (((with_reducible refine gate_store (t:=3) (p:=111) rfl ?_);refine store_event (t:=3) (p:=111) (v:=?vo_w27) (w1:=(wr.setCell ⟨go25,(x7_2:Int).toNat,none⟩ (.int .i64 (wrap64 ((l1.length:Int) - x7_2))))) ?hg ?ho ?hn ?hr ?_;(case ho=>rfl);(case hg=>rfl);(case hn=>rfl);(case hr=>(go_simp;done));intro w27 hw;have hg:wr.grownBy w27 (some go25):=(by rw [hw];exact HP26.2);have hz_:Kd.R (Kd.int .i64) 3 w27 w.heap.size oki26 (.slice (some ⟨go25,0,none⟩) (rd_L10 x5_2 x6_1).length c516_0) y517:=(by rw [hw,Ny517.out];exact HP26.1);have hp_:Kd.S (Kd.slice 3 (Kd.int .i64)) 35 w27 w.heap.size (fun _=>True) (.slice (some ⟨go14,0,none⟩) x5_2.length co14) y519:=(by rw [Ny519.out];exact hbk26 hg (fun k_ e_=>by injection e_ with e_;subst e_;exact ge26_0.1 _ rfl) (Kd.M_row hz_));have hm_:=Kd.R_mono hz_ hok26;clear HP26 hbk26;have n0_:=Aside0.mk hp_;have n1_:=Aside0.mk ((by rw [hw];exact below_set (HB.out) GB25.out:Below w.heap.size w w27));have n2_:=Aside0.mk hm_;have n3_:=Aside0.mk ((Kd.R_reads' hm_).2.1);clear HO_5;clear HB;clear HL516_0;have HO_5:=n0_;have HB:=n1_;have HL546:=n2_;have HC518:=n3_;clear n0_ n1_ n2_ n3_;clear hg hw hp_ hz_ hm_ hok26))
                  (try simp only [← hl5_2])
                  go_roundg k2
                  case measure=>have:=HK1.out;have:=HK2.out;omega
                  case rel=>exact ⟨(y519),(wrap64 (x7_2 - 1)),(by rfl),H',⟨by have:=HK1.out;have:=HK2.out;omega⟩,⟨by (try simp only [hl5_2]);exact HO_5.out⟩,⟨HB.out⟩⟩
                 ·rw [if_neg c24] at H
                  exact absurd H (by simp)
                ·rw [if_neg c23] at H
                 exact absurd H (by simp)
               ·rw [if_neg c22] at H
                exact absurd H (by simp)
              ·rw [if_neg c21] at H
               exact absurd H (by simp)
             ·rw [if_neg c20] at H
              have c20b0:(x6_1 == (l0.length:Int)) = false:=beq_eq_false_iff_ne.mpr c20
              have c20b1:(x6_1 != (l0.length:Int)) = true:=bne_iff_ne.mpr c20
              by_cases c28:x7_2 = (l1.length:Int)
              ·rw [if_pos c28] at H
               have c28b0:(x7_2 == (l1.length:Int)) = true:=beq_iff_eq.mpr c28
               have c28b1:(x7_2 != (l1.length:Int)) = false:=bne_eq_false_iff_eq.mpr c28
               clear c28
               by_cases c29:0 ≤ x6_1
               ·rw [if_pos c29] at H
                have c29b0:decide (0 ≤ x6_1) = true:=decide_eq_true c29
                clear c29
                by_cases c30:x6_1 < (x5_2.length:Int)
                ·rw [if_pos c30] at H
                 have c30b0:decide (x6_1 < (x5_2.length:Int)) = true:=decide_eq_true c30
                 clear c30
                 by_cases c31:0 ≤ x7_2
                 ·rw [if_pos c31] at H
                  have c31b0:decide (0 ≤ x7_2) = true:=decide_eq_true c31
                  clear c31
                  by_cases c32:x7_2 < ((rd_L10 x5_2 x6_1).length:Int)
                  ·rw [if_pos c32] at H
                   have c32b0:decide (x7_2 < ((rd_L10 x5_2 x6_1).length:Int)) = true:=decide_eq_true c32
                   clear c32
                   obtain ⟨y521,hy521⟩:∃ y_:List Int,y_ = ((rd_L10 x5_2 x6_1).set (x7_2:Int).toNat (wrap64 ((l0.length:Int) - x6_1))):=⟨_,rfl⟩
                   replace H:(diff_table.l1 k2 l0 l1 (x5_2.set (x6_1:Int).toNat y521) x6_1 (wrap64 (x7_2 - 1))) = some r:=by (rw [hy521];with_reducible exact H)
                   have Ny521:=Aside0.mk hy521
                   clear hy521
                   obtain ⟨y523,hy523⟩:∃ y_:List (List Int),y_ = (x5_2.set (x6_1:Int).toNat y521):=⟨_,rfl⟩
                   replace H:(diff_table.l1 k2 l0 l1 y523 x6_1 (wrap64 (x7_2 - 1))) = some r:=by (rw [hy523];with_reducible exact H)
                   have Ny523:=Aside0.mk hy523
                   clear hy523
                   have H':=Aside0.mk H
                   clear H
                   have p520:0 ≤ (x6_1:Int):=of_decide_eq_true (by assumption)
                   have q520:x6_1 < (x5_2.length:Int):=of_decide_eq_true (by assumption)
                   obtain ⟨ad520,A520_0,c520_0,e520,hx520_0,hl520_0,hi520_0⟩:=at_L10 (Kd.S_reads' HO_5.out).2.2 x6_1 p520 q520
                   obtain rfl:(⟨go14,0,none⟩:Addr) = ad520:=(by injection e520)
                   obtain ⟨ce520,hce520,hMe520,hcc520⟩:=Kd.S_get HO_5.out [] x6_1 p520 q520
                   obtain ⟨ve520_0,rfl,ge520_0⟩:=hMe520
                   have hv520_0:=hcc520 0 _ rfl
                   rw [Nat.add_zero,show ((Kd.slice 3 (Kd.int .i64))).sz = 1 from rfl,Nat.mul_one] at hv520_0
                   replace hv520_0:=Option.some.inj (hv520_0.symm.trans hx520_0)
                   rw [hv520_0] at ge520_0
                   have HL520_0:=Aside0.mk (show Kd.R (Kd.int .i64) 3 _ _ _ _ (rd_L10 x5_2 x6_1) from ge520_0)
                   clear hv520_0 ge520_0
                   have HX520_0:=Aside0.mk hx520_0
                   clear hcc520 hce520
                   (simp only [add_plain] at hx520_0)
                   have HR520_0:=Aside0.mk hi520_0
                   have HC520_0:=Aside0.mk hl520_0
                   clear hi520_0 hl520_0
                   replace p520:=eq_true p520
                   replace q520:=eq_true q520
                   have p33:0 ≤ (x7_2:Int):=of_decide_eq_true (by assumption)
                   have q33:(x7_2:Int) < (((rd_L10 x5_2 x6_1).length:Int):Int):=of_decide_eq_true (by assumption)
                   obtain ⟨go33,co33,eo33,gb33,gl33,cl33,HG33⟩:=Kd.R_form HL520_0.out (by omega)
                   (first | cases eo33 | (injection eo33 with ea_ en_ ec_;(first | subst ea_ | (injection ea_ with ea_;subst ea_));subst ec_;clear en_))
                   have GB33:=Aside0.mk gb33
                   have GG33:=Aside0.mk HG33
                   clear gb33 gl33 HG33
                   obtain ⟨hx33_0,hf33_0⟩:=Kd.R_celln 0 HL520_0.out (x7_2:Int) p33 q33
                   replace p33:=eq_true p33
                   replace q33:=eq_true q33
                   have hq34:(x6_1:Int) < (x5_2.length:Int):=(by have h_:(x6_1:Int) < ((x5_2.length:Int):Int):=of_decide_eq_true (by assumption);exact h_)
                   obtain ⟨oki34,ce34,hcl34,hM34,hcc34,hok34,hbk34⟩:=Kd.S_borrow HO_5.out [] (x6_1:Int) (of_decide_eq_true (by assumption)) hq34
                   obtain ⟨ve34_0,rfl,ge34_0⟩:=hM34
                   have hv34:=hcc34 0 _ rfl
                   rw [Nat.add_zero,show ((Kd.slice 3 (Kd.int .i64))).sz = 1 from rfl,Nat.mul_one] at hv34
                   replace hv34:=Option.some.inj (hv34.symm.trans HX520_0.out)
                   subst hv34
                   clear hcc34 hcl34
                   replace ge34_0:=(show Kd.R (Kd.int .i64) 3 _ _ _ _ (rd_L10 x5_2 x6_1) from ge34_0)
                   have HP34:=Kd.R_putg ge34_0 (x7_2:Int) (wrap64 ((l0.length:Int) - x6_1))
                   go_wp2_with (((with_reducible refine gate_store (t:=3) (p:=126) rfl ?_);refine store_event (t:=3) (p:=126) (v:=?vo_w35) (w1:=(wr.setCell ⟨go33,(x7_2:Int).toNat,none⟩ (.int .i64 (wrap64 ((l0.length:Int) - x6_1))))) ?hg ?ho ?hn ?hr ?_;(case ho=>rfl);(case hg=>rfl);(case hn=>rfl);(case hr=>(go_simp;done));intro w35 hw;have hg:wr.grownBy w35 (some go33):=(by rw [hw];exact HP34.2);have hz_:Kd.R (Kd.int .i64) 3 w35 w.heap.size oki34 (.slice (some ⟨go33,0,none⟩) (rd_L10 x5_2 x6_1).length c520_0) y521:=(by rw [hw,Ny521.out];exact HP34.1);have hp_:Kd.S (Kd.slice 3 (Kd.int .i64)) 35 w35 w.heap.size (fun _=>True) (.slice (some ⟨go14,0,none⟩) x5_2.length co14) y523:=(by rw [Ny523.out];exact hbk34 hg (fun k_ e_=>by injection e_ with e_;subst e_;exact ge34_0.1 _ rfl) (Kd.M_row hz_));have hm_:=Kd.R_mono hz_ hok34;clear HP34 hbk34;have n0_:=Aside0.mk hp_;have n1_:=Aside0.mk ((by rw [hw];exact below_set (HB.out) GB33.out:Below w.heap.size w w35));have n2_:=Aside0.mk hm_;have n3_:=Aside0.mk ((Kd.R_reads' hm_).2.1);clear HO_5;clear HB;clear HL520_0;have HO_5:=n0_;have HB:=n1_;have HL547:=n2_;have HC522:=n3_;clear n0_ n1_ n2_ n3_;clear hg hw hp_ hz_ hm_ hok34))
                   (try simp only [← hl5_2])
                   go_roundg k2
                   case measure=>have:=HK1.out;have:=HK2.out;omega
                   case rel=>exact ⟨(y523),(wrap64 (x7_2 - 1)),(by rfl),H',⟨by have:=HK1.out;have:=HK2.out;omega⟩,⟨by (try simp only [hl5_2]);exact HO_5.out⟩,⟨HB.out⟩⟩
                  ·rw [if_neg c32] at H
                   exact absurd H (by simp)
                 ·rw [if_neg c31] at H
                  exact absurd H (by simp)
                ·rw [if_neg c30] at H
                 exact absurd H (by simp)
               ·rw [if_neg c29] at H
                exact absurd H (by simp)
              ·rw [if_neg c28] at H
               have c28b0:(x7_2 == (l1.length:Int)) = false:=beq_eq_false_iff_ne.mpr c28
               have c28b1:(x7_2 != (l1.length:Int)) = true:=bne_iff_ne.mpr c28
               by_cases c36:0 ≤ x6_1
               ·rw [if_pos c36] at H
                have c36b0:decide (0 ≤ x6_1) = true:=decide_eq_true c36
                clear c36
                by_cases c37:x6_1 < (x5_2.length:Int)
                ·rw [if_pos c37] at H
                 have c37b0:decide (x6_1 < (x5_2.length:Int)) = true:=decide_eq_true c37
                 clear c37
                 obtain ⟨ji38,hji38⟩:∃ j_:Int,(wrap64 (x6_1 + 1)) = j_:=⟨_,rfl⟩
                 replace H:(if 0 ≤ (ji38) then (if (ji38) < (x5_2.length:Int) then (if 0 ≤ x7_2 then (if x7_2 < ((rd_L10 x5_2 (ji38)).length:Int) then (if 0 ≤ (wrap64 (x7_2 + 1)) then (if (wrap64 (x7_2 + 1)) < ((rd_L10 x5_2 x6_1).length:Int) then (if x7_2 < ((rd_L10 x5_2 x6_1).length:Int) then ((some (x5_2.set (x6_1:Int).toNat ((rd_L10 x5_2 x6_1).set (x7_2:Int).toNat (wrap64 (1 + (mn (rd (rd_L10 x5_2 (ji38)) x7_2) (rd (rd_L10 x5_2 x6_1) (wrap64 (x7_2 + 1))))))):List (List Int))).bind fun y531=>(if x6_1 < (l0.length:Int) then (if x7_2 < (l1.length:Int) then ((diff_alike.f ((rd_T26 l0 x6_1).f0) ((rd_T26 l0 x6_1).f1) ((rd_T26 l0 x6_1).f2) ((rd_T26 l1 x7_2).f0) ((rd_T26 l1 x7_2).f1) ((rd_T26 l1 x7_2).f2)).bind fun t534=>(if t534 = true then (if x7_2 < ((rd_L10 y531 x6_1).length:Int) then (if (wrap64 (x7_2 + 1)) < ((rd_L10 y531 (ji38)).length:Int) then ((diff_price.f k2 ((rd_T26 l0 x6_1).f0) ((rd_T26 l0 x6_1).f1) ((rd_T26 l0 x6_1).f2) ((rd_T26 l1 x7_2).f0) ((rd_T26 l1 x7_2).f1) ((rd_T26 l1 x7_2).f2)).bind fun t542=>(diff_table.l1 k2 l0 l1 (y531.set (x6_1:Int).toNat ((rd_L10 y531 x6_1).set (x7_2:Int).toNat (mn (rd (rd_L10 y531 x6_1) x7_2) (wrap64 ((rd (rd_L10 y531 (ji38)) (wrap64 (x7_2 + 1))) + t542))))) x6_1 (wrap64 (x7_2 - 1)))) else (none)) else (none)) else (diff_table.l1 k2 l0 l1 y531 x6_1 (wrap64 (x7_2 - 1))))) else (none)) else (none))) else (none)) else (none)) else (none)) else (none)) else (none)) else (none)) else (none)) = some r:=by (rw [hji38] at H;exact H)
                 have hji38w:(IntKind.i64.wrap (x6_1 + 1)) = ji38:=(i64_w _).trans hji38
                 by_cases c39:0 ≤ (ji38)
                 ·rw [if_pos c39] at H
                  have c39b0:decide (0 ≤ (ji38)) = true:=decide_eq_true c39
                  clear c39
                  by_cases c40:(ji38) < (x5_2.length:Int)
                  ·rw [if_pos c40] at H
                   have c40b0:decide ((ji38) < (x5_2.length:Int)) = true:=decide_eq_true c40
                   clear c40
                   by_cases c41:0 ≤ x7_2
                   ·rw [if_pos c41] at H
                    have c41b0:decide (0 ≤ x7_2) = true:=decide_eq_true c41
                    clear c41
                    by_cases c42:x7_2 < ((rd_L10 x5_2 (ji38)).length:Int)
                    ·rw [if_pos c42] at H
                     have c42b0:decide (x7_2 < ((rd_L10 x5_2 (ji38)).length:Int)) = true:=decide_eq_true c42
                     clear c42
                     obtain ⟨ji43,hji43⟩:∃ j_:Int,(wrap64 (x7_2 + 1)) = j_:=⟨_,rfl⟩
                     replace H:(if 0 ≤ (ji43) then (if (ji43) < ((rd_L10 x5_2 x6_1).length:Int) then (if x7_2 < ((rd_L10 x5_2 x6_1).length:Int) then ((some (x5_2.set (x6_1:Int).toNat ((rd_L10 x5_2 x6_1).set (x7_2:Int).toNat (wrap64 (1 + (mn (rd (rd_L10 x5_2 (ji38)) x7_2) (rd (rd_L10 x5_2 x6_1) (ji43)))))):List (List Int))).bind fun y531=>(if x6_1 < (l0.length:Int) then (if x7_2 < (l1.length:Int) then ((diff_alike.f ((rd_T26 l0 x6_1).f0) ((rd_T26 l0 x6_1).f1) ((rd_T26 l0 x6_1).f2) ((rd_T26 l1 x7_2).f0) ((rd_T26 l1 x7_2).f1) ((rd_T26 l1 x7_2).f2)).bind fun t534=>(if t534 = true then (if x7_2 < ((rd_L10 y531 x6_1).length:Int) then (if (ji43) < ((rd_L10 y531 (ji38)).length:Int) then ((diff_price.f k2 ((rd_T26 l0 x6_1).f0) ((rd_T26 l0 x6_1).f1) ((rd_T26 l0 x6_1).f2) ((rd_T26 l1 x7_2).f0) ((rd_T26 l1 x7_2).f1) ((rd_T26 l1 x7_2).f2)).bind fun t542=>(diff_table.l1 k2 l0 l1 (y531.set (x6_1:Int).toNat ((rd_L10 y531 x6_1).set (x7_2:Int).toNat (mn (rd (rd_L10 y531 x6_1) x7_2) (wrap64 ((rd (rd_L10 y531 (ji38)) (ji43)) + t542))))) x6_1 (wrap64 (x7_2 - 1)))) else (none)) else (none)) else (diff_table.l1 k2 l0 l1 y531 x6_1 (wrap64 (x7_2 - 1))))) else (none)) else (none))) else (none)) else (none)) else (none)) = some r:=by (rw [hji43] at H;exact H)
                     have hji43w:(IntKind.i64.wrap (x7_2 + 1)) = ji43:=(i64_w _).trans hji43
                     by_cases c44:0 ≤ (ji43)
                     ·rw [if_pos c44] at H
                      have c44b0:decide (0 ≤ (ji43)) = true:=decide_eq_true c44
                      clear c44
                      by_cases c45:(ji43) < ((rd_L10 x5_2 x6_1).length:Int)
                      ·rw [if_pos c45] at H
                       have c45b0:decide ((ji43) < ((rd_L10 x5_2 x6_1).length:Int)) = true:=decide_eq_true c45
                       clear c45
                       obtain ⟨ji46,hji46⟩:∃ j_:Int,(mn (rd (rd_L10 x5_2 (ji38)) x7_2) (rd (rd_L10 x5_2 x6_1) (ji43))) = j_:=⟨_,rfl⟩
                       replace H:(if x7_2 < ((rd_L10 x5_2 x6_1).length:Int) then ((some (x5_2.set (x6_1:Int).toNat ((rd_L10 x5_2 x6_1).set (x7_2:Int).toNat (wrap64 (1 + (ji46)))):List (List Int))).bind fun y531=>(if x6_1 < (l0.length:Int) then (if x7_2 < (l1.length:Int) then ((diff_alike.f ((rd_T26 l0 x6_1).f0) ((rd_T26 l0 x6_1).f1) ((rd_T26 l0 x6_1).f2) ((rd_T26 l1 x7_2).f0) ((rd_T26 l1 x7_2).f1) ((rd_T26 l1 x7_2).f2)).bind fun t534=>(if t534 = true then (if x7_2 < ((rd_L10 y531 x6_1).length:Int) then (if (ji43) < ((rd_L10 y531 (ji38)).length:Int) then ((diff_price.f k2 ((rd_T26 l0 x6_1).f0) ((rd_T26 l0 x6_1).f1) ((rd_T26 l0 x6_1).f2) ((rd_T26 l1 x7_2).f0) ((rd_T26 l1 x7_2).f1) ((rd_T26 l1 x7_2).f2)).bind fun t542=>(diff_table.l1 k2 l0 l1 (y531.set (x6_1:Int).toNat ((rd_L10 y531 x6_1).set (x7_2:Int).toNat (mn (rd (rd_L10 y531 x6_1) x7_2) (wrap64 ((rd (rd_L10 y531 (ji38)) (ji43)) + t542))))) x6_1 (wrap64 (x7_2 - 1)))) else (none)) else (none)) else (diff_table.l1 k2 l0 l1 y531 x6_1 (wrap64 (x7_2 - 1))))) else (none)) else (none))) else (none)) = some r:=by (rw [hji46] at H;exact H)
                       have hji46_:(if (rd (rd_L10 x5_2 x6_1) (ji43)) < (rd (rd_L10 x5_2 (ji38)) x7_2) then (rd (rd_L10 x5_2 x6_1) (ji43)) else (rd (rd_L10 x5_2 (ji38)) x7_2)) = ji46:=hji46
                       by_cases c47:x7_2 < ((rd_L10 x5_2 x6_1).length:Int)
                       ·rw [if_pos c47] at H
                        have c47b0:decide (x7_2 < ((rd_L10 x5_2 x6_1).length:Int)) = true:=decide_eq_true c47
                        clear c47
                        obtain ⟨y529,hy529⟩:∃ y_:List Int,y_ = ((rd_L10 x5_2 x6_1).set (x7_2:Int).toNat (wrap64 (1 + (ji46)))):=⟨_,rfl⟩
                        replace H:((some (x5_2.set (x6_1:Int).toNat y529:List (List Int))).bind fun y531=>(if x6_1 < (l0.length:Int) then (if x7_2 < (l1.length:Int) then ((diff_alike.f ((rd_T26 l0 x6_1).f0) ((rd_T26 l0 x6_1).f1) ((rd_T26 l0 x6_1).f2) ((rd_T26 l1 x7_2).f0) ((rd_T26 l1 x7_2).f1) ((rd_T26 l1 x7_2).f2)).bind fun t534=>(if t534 = true then (if x7_2 < ((rd_L10 y531 x6_1).length:Int) then (if (ji43) < ((rd_L10 y531 (ji38)).length:Int) then ((diff_price.f k2 ((rd_T26 l0 x6_1).f0) ((rd_T26 l0 x6_1).f1) ((rd_T26 l0 x6_1).f2) ((rd_T26 l1 x7_2).f0) ((rd_T26 l1 x7_2).f1) ((rd_T26 l1 x7_2).f2)).bind fun t542=>(diff_table.l1 k2 l0 l1 (y531.set (x6_1:Int).toNat ((rd_L10 y531 x6_1).set (x7_2:Int).toNat (mn (rd (rd_L10 y531 x6_1) x7_2) (wrap64 ((rd (rd_L10 y531 (ji38)) (ji43)) + t542))))) x6_1 (wrap64 (x7_2 - 1)))) else (none)) else (none)) else (diff_table.l1 k2 l0 l1 y531 x6_1 (wrap64 (x7_2 - 1))))) else (none)) else (none))) = some r:=by (rw [hy529];with_reducible exact H)
                        have Ny529:=Aside0.mk hy529
                        clear hy529
                        obtain ⟨y531,hy531⟩:∃ y_:List (List Int),y_ = (x5_2.set (x6_1:Int).toNat y529):=⟨_,rfl⟩
                        replace H:(if x6_1 < (l0.length:Int) then (if x7_2 < (l1.length:Int) then ((diff_alike.f ((rd_T26 l0 x6_1).f0) ((rd_T26 l0 x6_1).f1) ((rd_T26 l0 x6_1).f2) ((rd_T26 l1 x7_2).f0) ((rd_T26 l1 x7_2).f1) ((rd_T26 l1 x7_2).f2)).bind fun t534=>(if t534 = true then (if x7_2 < ((rd_L10 y531 x6_1).length:Int) then (if (ji43) < ((rd_L10 y531 (ji38)).length:Int) then ((diff_price.f k2 ((rd_T26 l0 x6_1).f0) ((rd_T26 l0 x6_1).f1) ((rd_T26 l0 x6_1).f2) ((rd_T26 l1 x7_2).f0) ((rd_T26 l1 x7_2).f1) ((rd_T26 l1 x7_2).f2)).bind fun t542=>(diff_table.l1 k2 l0 l1 (y531.set (x6_1:Int).toNat ((rd_L10 y531 x6_1).set (x7_2:Int).toNat (mn (rd (rd_L10 y531 x6_1) x7_2) (wrap64 ((rd (rd_L10 y531 (ji38)) (ji43)) + t542))))) x6_1 (wrap64 (x7_2 - 1)))) else (none)) else (none)) else (diff_table.l1 k2 l0 l1 y531 x6_1 (wrap64 (x7_2 - 1))))) else (none)) else (none)) = some r:=by (have H2_:=(Option.bind_some _ _).symm.trans H;rw [hy531];with_reducible exact H2_)
                        have Ny531:=Aside0.mk hy531
                        clear hy531
                        by_cases c49:x6_1 < (l0.length:Int)
                        ·rw [if_pos c49] at H
                         have c49b0:decide (x6_1 < (l0.length:Int)) = true:=decide_eq_true c49
                         clear c49
                         by_cases c50:x7_2 < (l1.length:Int)
                         ·rw [if_pos c50] at H
                          have c50b0:decide (x7_2 < (l1.length:Int)) = true:=decide_eq_true c50
                          clear c50
                          replace H:=Option.bind_eq_some_iff.mp H
                          obtain ⟨t534,A510,H⟩:=H
                          replace H:(if t534 = true then (if x7_2 < ((rd_L10 y531 x6_1).length:Int) then (if (ji43) < ((rd_L10 y531 (ji38)).length:Int) then ((diff_price.f k2 ((rd_T26 l0 x6_1).f0) ((rd_T26 l0 x6_1).f1) ((rd_T26 l0 x6_1).f2) ((rd_T26 l1 x7_2).f0) ((rd_T26 l1 x7_2).f1) ((rd_T26 l1 x7_2).f2)).bind fun t542=>(diff_table.l1 k2 l0 l1 (y531.set (x6_1:Int).toNat ((rd_L10 y531 x6_1).set (x7_2:Int).toNat (mn (rd (rd_L10 y531 x6_1) x7_2) (wrap64 ((rd (rd_L10 y531 (ji38)) (ji43)) + t542))))) x6_1 (wrap64 (x7_2 - 1)))) else (none)) else (none)) else (diff_table.l1 k2 l0 l1 y531 x6_1 (wrap64 (x7_2 - 1)))) = some r:=H
                          have A51:=Aside0.mk A510
                          clear A510
                          by_cases c52:t534 = true
                          ·subst c52
                           have H1:(if x7_2 < ((rd_L10 y531 x6_1).length:Int) then (if (ji43) < ((rd_L10 y531 (ji38)).length:Int) then ((diff_price.f k2 ((rd_T26 l0 x6_1).f0) ((rd_T26 l0 x6_1).f1) ((rd_T26 l0 x6_1).f2) ((rd_T26 l1 x7_2).f0) ((rd_T26 l1 x7_2).f1) ((rd_T26 l1 x7_2).f2)).bind fun t542=>(diff_table.l1 k2 l0 l1 (y531.set (x6_1:Int).toNat ((rd_L10 y531 x6_1).set (x7_2:Int).toNat (mn (rd (rd_L10 y531 x6_1) x7_2) (wrap64 ((rd (rd_L10 y531 (ji38)) (ji43)) + t542))))) x6_1 (wrap64 (x7_2 - 1)))) else (none)) else (none)) = some r:=by rw [if_pos rfl] at H;exact H
                           clear H
                           have H:=H1
                           clear H1
                           by_cases c53:x7_2 < ((rd_L10 y531 x6_1).length:Int)
                           ·rw [if_pos c53] at H
                            have c53b0:decide (x7_2 < ((rd_L10 y531 x6_1).length:Int)) = true:=decide_eq_true c53
                            clear c53
                            by_cases c54:(ji43) < ((rd_L10 y531 (ji38)).length:Int)
                            ·rw [if_pos c54] at H
                             have c54b0:decide ((ji43) < ((rd_L10 y531 (ji38)).length:Int)) = true:=decide_eq_true c54
                             clear c54
                             replace H:=Option.bind_eq_some_iff.mp H
                             obtain ⟨t542,A550,H⟩:=H
                             replace H:(diff_table.l1 k2 l0 l1 (y531.set (x6_1:Int).toNat ((rd_L10 y531 x6_1).set (x7_2:Int).toNat (mn (rd (rd_L10 y531 x6_1) x7_2) (wrap64 ((rd (rd_L10 y531 (ji38)) (ji43)) + t542))))) x6_1 (wrap64 (x7_2 - 1))) = some r:=H
                             have A55:=Aside0.mk A550
                             clear A550
                             obtain ⟨ji56,hji56⟩:∃ j_:Int,(mn (rd (rd_L10 y531 x6_1) x7_2) (wrap64 ((rd (rd_L10 y531 (ji38)) (ji43)) + t542))) = j_:=⟨_,rfl⟩
                             replace H:(diff_table.l1 k2 l0 l1 (y531.set (x6_1:Int).toNat ((rd_L10 y531 x6_1).set (x7_2:Int).toNat (ji56))) x6_1 (wrap64 (x7_2 - 1))) = some r:=by (rw [hji56] at H;exact H)
                             (try rw [hji56] at A51)
                             (try rw [hji56] at A55)
                             have hji56_:(if (wrap64 ((rd (rd_L10 y531 (ji38)) (ji43)) + t542)) < (rd (rd_L10 y531 x6_1) x7_2) then (wrap64 ((rd (rd_L10 y531 (ji38)) (ji43)) + t542)) else (rd (rd_L10 y531 x6_1) x7_2)) = ji56:=hji56
                             obtain ⟨y543,hy543⟩:∃ y_:List Int,y_ = ((rd_L10 y531 x6_1).set (x7_2:Int).toNat (ji56)):=⟨_,rfl⟩
                             replace H:(diff_table.l1 k2 l0 l1 (y531.set (x6_1:Int).toNat y543) x6_1 (wrap64 (x7_2 - 1))) = some r:=by (rw [hy543];with_reducible exact H)
                             have Ny543:=Aside0.mk hy543
                             clear hy543
                             obtain ⟨y545,hy545⟩:∃ y_:List (List Int),y_ = (y531.set (x6_1:Int).toNat y543):=⟨_,rfl⟩
                             replace H:(diff_table.l1 k2 l0 l1 y545 x6_1 (wrap64 (x7_2 - 1))) = some r:=by (rw [hy545];with_reducible exact H)
                             have Ny545:=Aside0.mk hy545
                             clear hy545
                             have H':=Aside0.mk H
                             clear H
                             try go_wp2
                             have n0_:=Aside0.mk (Kd.S_drew HO_5.out)
                             have n1_:=Aside0.mk (below_drew1 HB.out)
                             clear HO_5
                             clear HB
                             have HO_5:=n0_
                             have HB:=n1_
                             clear n0_ n1_
                             have p524:0 ≤ (x6_1:Int):=of_decide_eq_true (by assumption)
                             have q524:x6_1 < (x5_2.length:Int):=of_decide_eq_true (by assumption)
                             obtain ⟨ad524,A524_0,c524_0,e524,hx524_0,hl524_0,hi524_0⟩:=at_L10 (Kd.S_reads' HO_5.out).2.2 x6_1 p524 q524
                             obtain rfl:(⟨go14,0,none⟩:Addr) = ad524:=(by injection e524)
                             obtain ⟨ce524,hce524,hMe524,hcc524⟩:=Kd.S_get HO_5.out [] x6_1 p524 q524
                             obtain ⟨ve524_0,rfl,ge524_0⟩:=hMe524
                             have hv524_0:=hcc524 0 _ rfl
                             rw [Nat.add_zero,show ((Kd.slice 3 (Kd.int .i64))).sz = 1 from rfl,Nat.mul_one] at hv524_0
                             replace hv524_0:=Option.some.inj (hv524_0.symm.trans hx524_0)
                             rw [hv524_0] at ge524_0
                             have HL524_0:=Aside0.mk (show Kd.R (Kd.int .i64) 3 _ _ _ _ (rd_L10 x5_2 x6_1) from ge524_0)
                             clear hv524_0 ge524_0
                             have HX524_0:=Aside0.mk hx524_0
                             clear hcc524 hce524
                             (simp only [add_plain] at hx524_0)
                             have HR524_0:=Aside0.mk hi524_0
                             have HC524_0:=Aside0.mk hl524_0
                             clear hi524_0 hl524_0
                             replace p524:=eq_true p524
                             replace q524:=eq_true q524
                             have p525:0 ≤ ((ji38):Int):=of_decide_eq_true (by assumption)
                             have q525:(ji38) < (x5_2.length:Int):=of_decide_eq_true (by assumption)
                             obtain ⟨ad525,A525_0,c525_0,e525,hx525_0,hl525_0,hi525_0⟩:=at_L10 (Kd.S_reads' HO_5.out).2.2 (ji38) p525 q525
                             obtain rfl:(⟨go14,0,none⟩:Addr) = ad525:=(by injection e525)
                             obtain ⟨ce525,hce525,hMe525,hcc525⟩:=Kd.S_get HO_5.out [] (ji38) p525 q525
                             obtain ⟨ve525_0,rfl,ge525_0⟩:=hMe525
                             have hv525_0:=hcc525 0 _ rfl
                             rw [Nat.add_zero,show ((Kd.slice 3 (Kd.int .i64))).sz = 1 from rfl,Nat.mul_one] at hv525_0
                             replace hv525_0:=Option.some.inj (hv525_0.symm.trans hx525_0)
                             rw [hv525_0] at ge525_0
                             have HL525_0:=Aside0.mk (show Kd.R (Kd.int .i64) 3 _ _ _ _ (rd_L10 x5_2 (ji38)) from ge525_0)
                             clear hv525_0 ge525_0
                             have HX525_0:=Aside0.mk hx525_0
                             clear hcc525 hce525
                             (simp only [add_plain] at hx525_0)
                             have HR525_0:=Aside0.mk hi525_0
                             have HC525_0:=Aside0.mk hl525_0
                             clear hi525_0 hl525_0
                             replace p525:=eq_true p525
                             replace q525:=eq_true q525
                             have p526:0 ≤ (x7_2:Int):=of_decide_eq_true (by assumption)
                             have q526:x7_2 < ((rd_L10 x5_2 (ji38)).length:Int):=of_decide_eq_true (by assumption)
                             obtain ⟨ad526,e526,hx526_0⟩:=Kd.at_int HR525_0.out x7_2 p526 q526
                             cases e526
                             replace p526:=eq_true p526
                             replace q526:=eq_true q526
                             have p527:0 ≤ (x6_1:Int):=of_decide_eq_true (by assumption)
                             have q527:x6_1 < (x5_2.length:Int):=of_decide_eq_true (by assumption)
                             obtain ⟨ad527,A527_0,c527_0,e527,hx527_0,hl527_0,hi527_0⟩:=at_L10 (Kd.S_reads' HO_5.out).2.2 x6_1 p527 q527
                             obtain rfl:(⟨go14,0,none⟩:Addr) = ad527:=(by injection e527)
                             obtain ⟨ce527,hce527,hMe527,hcc527⟩:=Kd.S_get HO_5.out [] x6_1 p527 q527
                             obtain ⟨ve527_0,rfl,ge527_0⟩:=hMe527
                             have hv527_0:=hcc527 0 _ rfl
                             rw [Nat.add_zero,show ((Kd.slice 3 (Kd.int .i64))).sz = 1 from rfl,Nat.mul_one] at hv527_0
                             replace hv527_0:=Option.some.inj (hv527_0.symm.trans hx527_0)
                             rw [hv527_0] at ge527_0
                             have HL527_0:=Aside0.mk (show Kd.R (Kd.int .i64) 3 _ _ _ _ (rd_L10 x5_2 x6_1) from ge527_0)
                             clear hv527_0 ge527_0
                             have HX527_0:=Aside0.mk hx527_0
                             clear hcc527 hce527
                             (simp only [add_plain] at hx527_0)
                             have HR527_0:=Aside0.mk hi527_0
                             have HC527_0:=Aside0.mk hl527_0
                             clear hi527_0 hl527_0
                             replace p527:=eq_true p527
                             replace q527:=eq_true q527
                             have ea_:=Option.some.inj (hx524_0.symm.trans hx527_0)
                             injection ea_ with ea_ en_ ec_
                             subst ea_
                             subst ec_
                             clear en_
                             have p528:0 ≤ ((ji43):Int):=of_decide_eq_true (by assumption)
                             have q528:(ji43) < ((rd_L10 x5_2 x6_1).length:Int):=of_decide_eq_true (by assumption)
                             obtain ⟨ad528,e528,hx528_0⟩:=Kd.at_int HR527_0.out (ji43) p528 q528
                             cases e528
                             replace p528:=eq_true p528
                             replace q528:=eq_true q528
                             have p48:0 ≤ (x7_2:Int):=of_decide_eq_true (by assumption)
                             have q48:(x7_2:Int) < (((rd_L10 x5_2 x6_1).length:Int):Int):=of_decide_eq_true (by assumption)
                             obtain ⟨go48,co48,eo48,gb48,gl48,cl48,HG48⟩:=Kd.R_form HL524_0.out (by omega)
                             (first | cases eo48 | (injection eo48 with ea_ en_ ec_;(first | subst ea_ | (injection ea_ with ea_;subst ea_));subst ec_;clear en_))
                             have GB48:=Aside0.mk gb48
                             have GG48:=Aside0.mk HG48
                             clear gb48 gl48 HG48
                             (simp only [add_plain] at hx528_0)
                             obtain ⟨hx48_0,hf48_0⟩:=Kd.R_celln 0 HL524_0.out (x7_2:Int) p48 q48
                             replace p48:=eq_true p48
                             replace q48:=eq_true q48
                             have hq59:(x6_1:Int) < (x5_2.length:Int):=(by have h_:(x6_1:Int) < ((x5_2.length:Int):Int):=of_decide_eq_true (by assumption);exact h_)
                             obtain ⟨oki59,ce59,hcl59,hM59,hcc59,hok59,hbk59⟩:=Kd.S_borrow HO_5.out [] (x6_1:Int) (of_decide_eq_true (by assumption)) hq59
                             obtain ⟨ve59_0,rfl,ge59_0⟩:=hM59
                             have hv59:=hcc59 0 _ rfl
                             rw [Nat.add_zero,show ((Kd.slice 3 (Kd.int .i64))).sz = 1 from rfl,Nat.mul_one] at hv59
                             replace hv59:=Option.some.inj (hv59.symm.trans HX524_0.out)
                             subst hv59
                             clear hcc59 hcl59
                             replace ge59_0:=(show Kd.R (Kd.int .i64) 3 _ _ _ _ (rd_L10 x5_2 x6_1) from ge59_0)
                             have HP59:=Kd.R_putg ge59_0 (x7_2:Int) (wrap64 (1 + (ji46)))
                             rw [← Ny529.out] at HP59
                             have HS59:=hbk59 HP59.2 (fun k_ e_=>by injection e_ with e_;subst e_;exact ge59_0.1 _ rfl) (x':=y529) (Kd.M_row HP59.1)
                             rw [← Ny531.out] at HS59
                             have HQ59:=Aside0.mk HS59
                             clear HP59 HS59 hbk59 hok59
                             refine start_ (n:=25) (S:=fun w'=>w'.cell? ⟨go14,(x6_1).toNat,none⟩ = some (.slice (some ⟨go48,0,none⟩) (rd_L10 x5_2 x6_1).length c524_0) ∧ w'.cell? ⟨go14,((ji38)).toNat,none⟩ = some (.slice (some ad526) (rd_L10 x5_2 (ji38)).length c525_0) ∧ w'.cell? (ad526.add (x7_2).toNat) = some (.int .i64 (rd (rd_L10 x5_2 (ji38)) x7_2)) ∧ w'.cell? ⟨go14,(x6_1).toNat,none⟩ = some (.slice (some ⟨go48,0,none⟩) (rd_L10 x5_2 x6_1).length c524_0) ∧ w'.cell? ⟨go48,((ji43)).toNat,none⟩ = some (.int .i64 (rd (rd_L10 x5_2 x6_1) (ji43)))) (ds:=[24]) #[false,false,false,false,false,false,false,false,false,false,false,false,false,false,false,false,false,false,false,false,false,false,false,false,false] (by kernel_rfl) rfl rfl ⟨hx524_0,hx525_0,hx526_0,hx527_0,hx528_0⟩ (fun hHeld=>?_);refine with_tabW diff_table.tab9 diff_table.bits9 (fun HT_ HW_=>?_)
                             generalize wr.drew = w58 at HO_5 HB GG48 HL524_0 HL525_0 HL527_0 HQ59 HR524_0 HR525_0 HR527_0 HX524_0 HX525_0 HX527_0 hf48_0 hx48_0 hx524_0 hx525_0 hx526_0 hx527_0 hx528_0 hHeld ⊢
                             refine pure_ (i:=0) (N:=some 31) (v:=?_) (a':=?_) (bm 1 25) rfl rfl (any_of HT_.out (by kernel_rfl)) (fun _ _ _ h=>h) (Or.inl ⟨by rfl,?_⟩) ?_ ?_
                             rotate_left
                             ·intro w'
                              go_simp
                              with_reducible rfl
                             rotate_left
                             ·simp only [Act.put,sA,sB,sC,i64_w,i32_w]
                              rfl
                             refine pure_ (i:=1) (N:=some 32) (v:=?_) (a':=?_) (bm 3 25) rfl rfl (any_of HT_.out (by kernel_rfl)) (fun _ _ _ h=>h) (Or.inl ⟨by rfl,?_⟩) ?_ ?_
                             rotate_left
                             ·intro w'
                              go_simp
                              with_reducible rfl
                             rotate_left
                             ·simp only [Act.put,sA,sB,sC,i64_w,i32_w]
                              rfl
                             refine pure_ (i:=2) (N:=some 33) (v:=?_) (a':=?_) (bm 7 25) rfl rfl (any_of HT_.out (by kernel_rfl)) (fun _ _ _ h=>h) (Or.inl ⟨by rfl,?_⟩) ?_ ?_
                             rotate_left
                             ·intro w'
                              go_simp
                              with_reducible rfl
                             rotate_left
                             ·simp only [Act.put,sA,sB,sC,i64_w,i32_w]
                              rfl
                             refine pure_ (i:=4) (N:=some 35) (v:=?_) (a':=?_) (bm 23 25) rfl rfl (any_of HT_.out (by kernel_rfl)) (fun _ _ _ h=>h) (Or.inl ⟨by rfl,?_⟩) ?_ ?_
                             rotate_left
                             ·intro w'
                              go_simp
                              with_reducible rfl
                             rotate_left
                             ·simp only [Act.put,sA,sB,sC,i64_w,i32_w]
                              rfl
                             refine pure_ (i:=5) (N:=some 36) (v:=?_) (a':=?_) (bm 55 25) rfl rfl (any_of HT_.out (by kernel_rfl)) (fun _ _ _ h=>h) (Or.inl ⟨by rfl,?_⟩) ?_ ?_
                             rotate_left
                             ·intro w'
                              go_simp
                              with_reducible rfl
                             rotate_left
                             ·simp only [Act.put,sA,sB,sC,i64_w,i32_w]
                              rfl
                             refine pure_ (i:=6) (N:=some 37) (v:=?_) (a':=?_) (bm 119 25) rfl rfl (any_of HT_.out (by kernel_rfl)) (fun _ _ _ h=>h) (Or.inl ⟨by rfl,?_⟩) ?_ ?_
                             rotate_left
                             ·intro w'
                              go_simp
                              with_reducible rfl
                             rotate_left
                             ·simp only [Act.put,sA,sB,sC,i64_w,i32_w]
                              rfl
                             refine pure_ (i:=7) (N:=some 38) (v:=?_) (a':=?_) (bm 247 25) rfl rfl (any_of HT_.out (by kernel_rfl)) (fun _ _ _ h=>h) (Or.inl ⟨by rfl,?_⟩) ?_ ?_
                             rotate_left
                             ·intro w'
                              go_simp
                              with_reducible rfl
                             rotate_left
                             ·simp only [Act.put,sA,sB,sC,i64_w,i32_w]
                              rfl
                             refine pure_ (i:=8) (N:=some 39) (v:=?_) (a':=?_) (bm 503 25) rfl rfl (any_of HT_.out (by kernel_rfl)) (fun _ _ _ h=>h) (Or.inl ⟨by rfl,?_⟩) ?_ ?_
                             rotate_left
                             ·intro w'
                              go_simp
                              with_reducible rfl
                             rotate_left
                             ·simp only [Act.put,sA,sB,sC,i64_w,i32_w]
                              rfl
                             refine pure_ (i:=10) (N:=some 41) (v:=?_) (a':=?_) (bm 1527 25) rfl rfl (any_of HT_.out (by kernel_rfl)) (fun _ _ _ h=>h) (Or.inl ⟨by rfl,?_⟩) ?_ ?_
                             rotate_left
                             ·intro w'
                              go_simp
                              with_reducible rfl
                             rotate_left
                             ·simp only [Act.put,sA,sB,sC,i64_w,i32_w]
                              rfl
                             refine pure_ (i:=13) (N:=some 44) (v:=?_) (a':=?_) (bm 9719 25) rfl rfl (any_of HT_.out (by kernel_rfl)) (fun _ _ _ h=>h) (Or.inl ⟨by rfl,?_⟩) ?_ ?_
                             rotate_left
                             ·intro w'
                              go_simp
                              with_reducible rfl
                             rotate_left
                             ·simp only [Act.put,sA,sB,sC,i64_w,i32_w]
                              rfl
                             refine pure_ (i:=14) (N:=some 45) (v:=?_) (a':=?_) (bm 26103 25) rfl rfl (any_of HT_.out (by kernel_rfl)) (fun _ _ _ h=>h) (Or.inl ⟨by rfl,?_⟩) ?_ ?_
                             rotate_left
                             ·intro w'
                              go_simp
                              with_reducible rfl
                             rotate_left
                             ·simp only [Act.put,sA,sB,sC,i64_w,i32_w]
                              rfl
                             refine pure_ (i:=15) (N:=some 46) (v:=?_) (a':=?_) (bm 58871 25) rfl rfl (any_of HT_.out (by kernel_rfl)) (fun _ _ _ h=>h) (Or.inl ⟨by rfl,?_⟩) ?_ ?_
                             rotate_left
                             ·intro w'
                              go_simp
                              with_reducible rfl
                             rotate_left
                             ·simp only [Act.put,sA,sB,sC,i64_w,i32_w]
                              rfl
                             refine pure_ (i:=17) (N:=some 48) (v:=?_) (a':=?_) (bm 189943 25) rfl rfl (any_of HT_.out (by kernel_rfl)) (fun _ _ _ h=>h) (Or.inl ⟨by rfl,?_⟩) ?_ ?_
                             rotate_left
                             ·intro w'
                              go_simp
                              with_reducible rfl
                             rotate_left
                             ·simp only [Act.put,sA,sB,sC,i64_w,i32_w]
                              rfl
                             refine pure_ (i:=18) (N:=some 49) (v:=?_) (a':=?_) (bm 452087 25) rfl rfl (any_of HT_.out (by kernel_rfl)) (fun _ _ _ h=>h) (Or.inl ⟨by rfl,?_⟩) ?_ ?_
                             rotate_left
                             ·intro w'
                              go_simp
                              with_reducible rfl
                             rotate_left
                             ·simp only [Act.put,sA,sB,sC,i64_w,i32_w]
                              rfl
                             refine take_ (i:=3) (N:=some 34) (v:=?_) (a':=?_) (bm 452095 25) rfl rfl (take_ofW HT_.out HW_.out (by kernel_rfl)) (fun _ _ _ h=>h) (Or.inl ⟨by rfl,?_⟩) hHeld ?_ ?_
                             rotate_left
                             ·rintro w' ⟨s0,s1,s2,s3,s4⟩
                              go_simp
                              with_reducible rfl
                             rotate_left
                             ·simp only [Act.put,sA,sB,sC,i64_w,i32_w]
                              rfl
                             refine take_ (i:=9) (N:=some 40) (v:=?_) (a':=?_) (bm 452607 25) rfl rfl (take_ofW HT_.out HW_.out (by kernel_rfl)) (fun _ _ _ h=>h) (Or.inl ⟨by rfl,?_⟩) hHeld ?_ ?_
                             rotate_left
                             ·rintro w' ⟨s0,s1,s2,s3,s4⟩
                              go_simp
                              with_reducible rfl
                             rotate_left
                             ·simp only [Act.put,sA,sB,sC,i64_w,i32_w]
                              rfl
                             refine pure_ (i:=11) (N:=some 42) (v:=?_) (a':=?_) (bm 454655 25) rfl rfl (any_of HT_.out (by kernel_rfl)) (fun _ _ _ h=>h) (Or.inl ⟨by rfl,?_⟩) ?_ ?_
                             rotate_left
                             ·intro w'
                              go_simp
                              with_reducible rfl
                             rotate_left
                             ·simp only [Act.put,sA,sB,sC,i64_w,i32_w]
                              rfl
                             refine take_ (i:=12) (N:=some 43) (v:=?_) (a':=?_) (bm 458751 25) rfl rfl (take_ofW HT_.out HW_.out (by kernel_rfl)) (fun _ _ _ h=>h) (Or.inl ⟨by rfl,?_⟩) hHeld ?_ ?_
                             rotate_left
                             ·rintro w' ⟨s0,s1,s2,s3,s4⟩
                              go_simp
                              with_reducible rfl
                             rotate_left
                             ·simp only [Act.put,sA,sB,sC,i64_w,i32_w]
                              rfl
                             refine take_ (i:=16) (N:=some 47) (v:=?_) (a':=?_) (bm 524287 25) rfl rfl (take_ofW HT_.out HW_.out (by kernel_rfl)) (fun _ _ _ h=>h) (Or.inl ⟨by rfl,?_⟩) hHeld ?_ ?_
                             rotate_left
                             ·rintro w' ⟨s0,s1,s2,s3,s4⟩
                              go_simp
                              with_reducible rfl
                             rotate_left
                             ·simp only [Act.put,sA,sB,sC,i64_w,i32_w]
                              rfl
                             refine pure_ (i:=19) (N:=some 50) (v:=?_) (a':=?_) (bm 1048575 25) rfl rfl (any_of HT_.out (by kernel_rfl)) (fun _ _ _ h=>h) (Or.inl ⟨by rfl,?_⟩) ?_ ?_
                             rotate_left
                             ·intro w'
                              go_simp
                              with_reducible rfl
                             rotate_left
                             ·simp only [Act.put,sA,sB,sC,i64_w,i32_w]
                              rfl
                             refine take_ (i:=20) (N:=some 51) (v:=?_) (a':=?_) (bm 2097151 25) rfl rfl (take_ofW HT_.out HW_.out (by kernel_rfl)) (fun _ _ _ h=>h) (Or.inl ⟨by rfl,?_⟩) hHeld ?_ ?_
                             rotate_left
                             ·rintro w' ⟨s0,s1,s2,s3,s4⟩
                              go_simp
                              with_reducible rfl
                             rotate_left
                             ·simp only [Act.put,sA,sB,sC,i64_w,i32_w]
                              rfl
                             refine pure_ (i:=21) (N:=some 52) (v:=?_) (a':=?_) (bm 4194303 25) rfl rfl (any_of HT_.out (by kernel_rfl)) (fun _ _ _ h=>h) (Or.inl ⟨by rfl,?_⟩) ?_ ?_
                             rotate_left
                             ·intro w'
                              go_simp
                              with_reducible rfl
                             rotate_left
                             ·simp only [Act.put,sA,sB,sC,i64_w,i32_w]
                              rfl
                             refine pure_ (i:=22) (N:=some 53) (v:=?_) (a':=?_) (bm 8388607 25) rfl rfl (any_of HT_.out (by kernel_rfl)) (fun _ _ _ h=>h) (Or.inl ⟨by rfl,?_⟩) ?_ ?_
                             rotate_left
                             ·intro w'
                              go_simp
                              with_reducible rfl
                             rotate_left
                             ·simp only [Act.put,sA,sB,sC,i64_w,i32_w]
                              rfl
                             refine pure_ (i:=23) (N:=some 54) (v:=?_) (a':=?_) (bm 16777215 25) rfl rfl (any_of HT_.out (by kernel_rfl)) (fun _ _ _ h=>h) (Or.inl ⟨by rfl,?_⟩) ?_ ?_
                             rotate_left
                             ·intro w'
                              go_simp
                              with_reducible rfl
                             rotate_left
                             ·simp only [Act.put,sA,sB,sC,i64_w,i32_w]
                              rfl
                             refine last_ (i:=24) (N:=none) (bm 33554431 25) rfl rfl (one_of HT_.out (by kernel_rfl)) (by decide) (fun K hK=>?_)
                             refine skip_ (w1:=?_) (by rfl) rfl ?_ ?_
                             rotate_left
                             ·go_simp
                              rfl
                             refine hK.out _ _ ?_
                             clear hK K
                             refine done_ (done_of HT_.out (by kernel_rfl)) ?_
                             try go_wp2
                             have n0_:Aside0 (Kd.S (Kd.slice 3 (Kd.int .i64)) 35 (w58.setCell ⟨go48,(x7_2:Int).toNat,none⟩ (.int .i64 (wrap64 (1 + (ji46))))) w.heap.size (fun _=>True) (.slice (some ⟨go14,0,none⟩) x5_2.length co14) y531):=⟨by exact HQ59.out⟩
                             have n1_:Aside0 (Below w.heap.size w (w58.setCell ⟨go48,(x7_2:Int).toNat,none⟩ (.int .i64 (wrap64 (1 + (ji46)))))):=⟨by repeat ((with_reducible first | exact HB.out | refine below_set ?_ GB48.out))⟩
                             (try clear HO_5)
                             (try clear HB)
                             generalize (w58.setCell ⟨go48,(x7_2:Int).toNat,none⟩ (.int .i64 (wrap64 (1 + (ji46))))) = w61 at n0_ n1_ ⊢
                             have HO_5:=n0_
                             have HB:=n1_
                             clear n0_ n1_
                             have n0_:=Aside0.mk (Kd.S_drew HO_5.out)
                             have n1_:=Aside0.mk (below_drew1 HB.out)
                             clear HO_5
                             clear HB
                             have HO_5:=n0_
                             have HB:=n1_
                             clear n0_ n1_
                             have p532:0 ≤ (x6_1:Int):=of_decide_eq_true (by assumption)
                             have q532:x6_1 < (l0.length:Int):=of_decide_eq_true (by assumption)
                             obtain ⟨ad532,A532_2,c532_2,e532,hx532_0,hx532_1,hx532_2,hl532_2,hi532_2⟩:=at_T26 HR0.out x6_1 p532 q532
                             have hw532_2:=hx532_2
                             have hw532_1:=hx532_1
                             have hw532_0:=hx532_0
                             cases e532
                             replace hx532_0:=(HB.out.cell (World.block_lt_of_cell? w _ hx532_0)).trans hx532_0
                             replace hx532_1:=(HB.out.cell (World.block_lt_of_cell? w _ hx532_1)).trans hx532_1
                             replace hx532_2:=(HB.out.cell (World.block_lt_of_cell? w _ hx532_2)).trans hx532_2
                             have HR532_2:=Aside0.mk hi532_2
                             have HC532_2:=Aside0.mk hl532_2
                             clear hi532_2 hl532_2
                             replace p532:=eq_true p532
                             replace q532:=eq_true q532
                             have p533:0 ≤ (x7_2:Int):=of_decide_eq_true (by assumption)
                             have q533:x7_2 < (l1.length:Int):=of_decide_eq_true (by assumption)
                             obtain ⟨ad533,A533_2,c533_2,e533,hx533_0,hx533_1,hx533_2,hl533_2,hi533_2⟩:=at_T26 HR1.out x7_2 p533 q533
                             have hw533_2:=hx533_2
                             have hw533_1:=hx533_1
                             have hw533_0:=hx533_0
                             cases e533
                             replace hx533_0:=(HB.out.cell (World.block_lt_of_cell? w _ hx533_0)).trans hx533_0
                             replace hx533_1:=(HB.out.cell (World.block_lt_of_cell? w _ hx533_1)).trans hx533_1
                             replace hx533_2:=(HB.out.cell (World.block_lt_of_cell? w _ hx533_2)).trans hx533_2
                             have HR533_2:=Aside0.mk hi533_2
                             have HC533_2:=Aside0.mk hl533_2
                             clear hi533_2 hl533_2
                             replace p533:=eq_true p533
                             replace q533:=eq_true q533
                             refine start_ (n:=9) (S:=fun w'=>w'.cell? (ad532.add ((x6_1).toNat * 3)) = some (.int .i64 ((rd_T26 l0 x6_1).f0)) ∧ w'.cell? ⟨(ad532.add ((x6_1).toNat * 3)).block,(ad532.add ((x6_1).toNat * 3)).off + 1,none⟩ = some (.int .i64 ((rd_T26 l0 x6_1).f1)) ∧ w'.cell? ⟨(ad532.add ((x6_1).toNat * 3)).block,(ad532.add ((x6_1).toNat * 3)).off + 2,none⟩ = some (.slice A532_2 ((rd_T26 l0 x6_1).f2).length c532_2) ∧ w'.cell? (ad533.add ((x7_2).toNat * 3)) = some (.int .i64 ((rd_T26 l1 x7_2).f0)) ∧ w'.cell? ⟨(ad533.add ((x7_2).toNat * 3)).block,(ad533.add ((x7_2).toNat * 3)).off + 1,none⟩ = some (.int .i64 ((rd_T26 l1 x7_2).f1)) ∧ w'.cell? ⟨(ad533.add ((x7_2).toNat * 3)).block,(ad533.add ((x7_2).toNat * 3)).off + 2,none⟩ = some (.slice A533_2 ((rd_T26 l1 x7_2).f2).length c533_2)) (ds:=[]) #[false,false,false,false,false,false,false,false,false] (by kernel_rfl) rfl rfl ⟨((HB.out.cell (World.block_lt_of_cell? w _ hw532_0)).trans hw532_0),((HB.out.cell (World.block_lt_of_cell? w _ hw532_1)).trans hw532_1),((HB.out.cell (World.block_lt_of_cell? w _ hw532_2)).trans hw532_2),((HB.out.cell (World.block_lt_of_cell? w _ hw533_0)).trans hw533_0),((HB.out.cell (World.block_lt_of_cell? w _ hw533_1)).trans hw533_1),((HB.out.cell (World.block_lt_of_cell? w _ hw533_2)).trans hw533_2)⟩ (fun hHeld=>?_);refine with_tabW diff_table.tab10 diff_table.bits10 (fun HT_ HW_=>?_)
                             generalize w61.drew = w62 at HO_5 HB HQ59 HR532_2 HR533_2 hx532_0 hx532_1 hx532_2 hx533_0 hx533_1 hx533_2 hHeld ⊢
                             refine pure_ (i:=0) (N:=some 55) (v:=?_) (a':=?_) (bm 1 9) rfl rfl (any_of HT_.out (by kernel_rfl)) (fun _ _ _ h=>h) (Or.inl ⟨by rfl,?_⟩) ?_ ?_
                             rotate_left
                             ·intro w'
                              go_simp
                              with_reducible rfl
                             rotate_left
                             ·simp only [Act.put,sA,sB,sC,i64_w,i32_w]
                              rfl
                             refine pure_ (i:=1) (N:=some 56) (v:=?_) (a':=?_) (bm 3 9) rfl rfl (any_of HT_.out (by kernel_rfl)) (fun _ _ _ h=>h) (Or.inl ⟨by rfl,?_⟩) ?_ ?_
                             rotate_left
                             ·intro w'
                              go_simp
                              with_reducible rfl
                             rotate_left
                             ·simp only [Act.put,sA,sB,sC,i64_w,i32_w]
                              rfl
                             refine pure_ (i:=2) (N:=some 57) (v:=?_) (a':=?_) (bm 7 9) rfl rfl (any_of HT_.out (by kernel_rfl)) (fun _ _ _ h=>h) (Or.inl ⟨by rfl,?_⟩) ?_ ?_
                             rotate_left
                             ·intro w'
                              go_simp
                              with_reducible rfl
                             rotate_left
                             ·simp only [Act.put,sA,sB,sC,i64_w,i32_w]
                              rfl
                             refine pure_ (i:=4) (N:=some 59) (v:=?_) (a':=?_) (bm 23 9) rfl rfl (any_of HT_.out (by kernel_rfl)) (fun _ _ _ h=>h) (Or.inl ⟨by rfl,?_⟩) ?_ ?_
                             rotate_left
                             ·intro w'
                              go_simp
                              with_reducible rfl
                             rotate_left
                             ·simp only [Act.put,sA,sB,sC,i64_w,i32_w]
                              rfl
                             refine pure_ (i:=5) (N:=some 60) (v:=?_) (a':=?_) (bm 55 9) rfl rfl (any_of HT_.out (by kernel_rfl)) (fun _ _ _ h=>h) (Or.inl ⟨by rfl,?_⟩) ?_ ?_
                             rotate_left
                             ·intro w'
                              go_simp
                              with_reducible rfl
                             rotate_left
                             ·simp only [Act.put,sA,sB,sC,i64_w,i32_w]
                              rfl
                             refine pure_ (i:=6) (N:=some 61) (v:=?_) (a':=?_) (bm 119 9) rfl rfl (any_of HT_.out (by kernel_rfl)) (fun _ _ _ h=>h) (Or.inl ⟨by rfl,?_⟩) ?_ ?_
                             rotate_left
                             ·intro w'
                              go_simp
                              with_reducible rfl
                             rotate_left
                             ·simp only [Act.put,sA,sB,sC,i64_w,i32_w]
                              rfl
                             refine take_ (i:=3) (N:=some 58) (v:=?_) (a':=?_) (bm 127 9) rfl rfl (take_ofW HT_.out HW_.out (by kernel_rfl)) (fun _ _ _ h=>h) (Or.inl ⟨by rfl,?_⟩) hHeld ?_ ?_
                             rotate_left
                             ·rintro w' ⟨s0,s1,s2,s3,s4,s5⟩
                              go_simp
                              with_reducible rfl
                             rotate_left
                             ·simp only [Act.put,sA,sB,sC,i64_w,i32_w]
                              rfl
                             refine take_ (i:=7) (N:=some 62) (v:=?_) (a':=?_) (bm 255 9) rfl rfl (take_ofW HT_.out HW_.out (by kernel_rfl)) (fun _ _ _ h=>h) (Or.inl ⟨by rfl,?_⟩) hHeld ?_ ?_
                             rotate_left
                             ·rintro w' ⟨s0,s1,s2,s3,s4,s5⟩
                              go_simp
                              with_reducible rfl
                             rotate_left
                             ·simp only [Act.put,sA,sB,sC,i64_w,i32_w]
                              rfl
                             refine one_ (i:=8) (N:=some 63) (bm 511 9) rfl rfl (one_of HT_.out (by kernel_rfl)) (by decide) (fun K hK=>?_)
                             refine goes_ Try.func133 (by kernel_rfl) rfl #[.agg #[.int .i64 ((rd_T26 l0 x6_1).f0),.int .i64 ((rd_T26 l0 x6_1).f1),.slice A532_2 ((rd_T26 l0 x6_1).f2).length c532_2],.agg #[.int .i64 ((rd_T26 l1 x7_2).f0),.int .i64 ((rd_T26 l1 x7_2).f1),.slice A533_2 ((rd_T26 l1 x7_2).f2).length c533_2]] (by rfl) rfl rfl (by (try simp only [List.map_toArray,List.map_cons,List.map_nil]);rfl) ?_
                             with_reducible refine (diff_alike.calls ((rd_T26 l0 x6_1).f0) ((rd_T26 l0 x6_1).f1) _ _ ((rd_T26 l0 x6_1).f2) ((rd_T26 l1 x7_2).f0) ((rd_T26 l1 x7_2).f1) _ _ ((rd_T26 l1 x7_2).f2) true _ ?side1 ?side2 ?side3 ?side4 A51.out).mono ?_
                             (case side1=>repeat (exact (Kd.C_below HR532_2.out HB.out)))
                             (case side2=>exact HC532_2.out)
                             (case side3=>repeat (exact (Kd.C_below HR533_2.out HB.out)))
                             (case side4=>exact HC533_2.out)
                             rintro e w63 ⟨rfl,hb⟩
                             refine ⟨_,rfl,?_⟩
                             have n0_:=Aside0.mk (Kd.S_below HO_5.out hb)
                             have n1_:=Aside0.mk (below_step (by with_reducible exact HB.out) hb)
                             clear HO_5
                             clear HB
                             have HO_5:=n0_
                             have HB:=n1_
                             clear n0_ n1_
                             (try clear hb)
                             (try clear hb2)
                             (try clear hk)
                             (try clear hi)
                             refine hK.out _ _ ⟨((HB.out.cell (World.block_lt_of_cell? w _ hw532_0)).trans hw532_0),((HB.out.cell (World.block_lt_of_cell? w _ hw532_1)).trans hw532_1),((HB.out.cell (World.block_lt_of_cell? w _ hw532_2)).trans hw532_2),((HB.out.cell (World.block_lt_of_cell? w _ hw533_0)).trans hw533_0),((HB.out.cell (World.block_lt_of_cell? w _ hw533_1)).trans hw533_1),((HB.out.cell (World.block_lt_of_cell? w _ hw533_2)).trans hw533_2)⟩ (fun hHeld=>?_)
                             clear hK K
                             refine norm_ (a':=?_) ?_ ?_
                             rotate_left
                             ·show Act.put _ (some 63) _ = _
                              simp only [Act.put,sA,sB,sC,i64_w,i32_w]
                              rfl
                             refine done_ (done_of HT_.out (by kernel_rfl)) ?_
                             try go_wp2
                             have n0_:=Aside0.mk (Kd.S_drew HO_5.out)
                             have n1_:=Aside0.mk (below_drew1 HB.out)
                             clear HO_5
                             clear HB
                             have HO_5:=n0_
                             have HB:=n1_
                             clear n0_ n1_
                             have p535:0 ≤ (x6_1:Int):=of_decide_eq_true (by assumption)
                             have q535:x6_1 < (y531.length:Int):=(by have h_:(x6_1:Int) < ((x5_2.length:Int):Int):=of_decide_eq_true (by assumption);(have e_:=(Kd.S_reads' HO_5.out).1;omega))
                             have ql535:((x6_1:Int) < ((x5_2.length:Int):Int)) = True:=eq_true (of_decide_eq_true (by assumption))
                             obtain ⟨ad535,A535_0,c535_0,e535,hx535_0,hl535_0,hi535_0⟩:=at_L10 (Kd.S_reads' HO_5.out).2.2 x6_1 p535 q535
                             obtain rfl:(⟨go14,0,none⟩:Addr) = ad535:=(by injection e535)
                             obtain ⟨ce535,hce535,hMe535,hcc535⟩:=Kd.S_get HO_5.out [] x6_1 p535 (by exact of_decide_eq_true (by assumption))
                             obtain ⟨ve535_0,rfl,ge535_0⟩:=hMe535
                             have hv535_0:=hcc535 0 _ rfl
                             rw [Nat.add_zero,show ((Kd.slice 3 (Kd.int .i64))).sz = 1 from rfl,Nat.mul_one] at hv535_0
                             replace hv535_0:=Option.some.inj (hv535_0.symm.trans hx535_0)
                             rw [hv535_0] at ge535_0
                             have HL535_0:=Aside0.mk (show Kd.R (Kd.int .i64) 3 _ _ _ _ (rd_L10 y531 x6_1) from ge535_0)
                             clear hv535_0 ge535_0
                             have HX535_0:=Aside0.mk hx535_0
                             clear hcc535 hce535
                             (simp only [add_plain] at hx535_0)
                             have HR535_0:=Aside0.mk hi535_0
                             have HC535_0:=Aside0.mk hl535_0
                             clear hi535_0 hl535_0
                             replace p535:=eq_true p535
                             replace q535:=eq_true q535
                             have p536:0 ≤ (x6_1:Int):=of_decide_eq_true (by assumption)
                             have q536:x6_1 < (y531.length:Int):=(by have h_:(x6_1:Int) < ((x5_2.length:Int):Int):=of_decide_eq_true (by assumption);(have e_:=(Kd.S_reads' HO_5.out).1;omega))
                             have ql536:((x6_1:Int) < ((x5_2.length:Int):Int)) = True:=eq_true (of_decide_eq_true (by assumption))
                             obtain ⟨ad536,A536_0,c536_0,e536,hx536_0,hl536_0,hi536_0⟩:=at_L10 (Kd.S_reads' HO_5.out).2.2 x6_1 p536 q536
                             obtain rfl:(⟨go14,0,none⟩:Addr) = ad536:=(by injection e536)
                             obtain ⟨ce536,hce536,hMe536,hcc536⟩:=Kd.S_get HO_5.out [] x6_1 p536 (by exact of_decide_eq_true (by assumption))
                             obtain ⟨ve536_0,rfl,ge536_0⟩:=hMe536
                             have hv536_0:=hcc536 0 _ rfl
                             rw [Nat.add_zero,show ((Kd.slice 3 (Kd.int .i64))).sz = 1 from rfl,Nat.mul_one] at hv536_0
                             replace hv536_0:=Option.some.inj (hv536_0.symm.trans hx536_0)
                             rw [hv536_0] at ge536_0
                             have HL536_0:=Aside0.mk (show Kd.R (Kd.int .i64) 3 _ _ _ _ (rd_L10 y531 x6_1) from ge536_0)
                             clear hv536_0 ge536_0
                             have HX536_0:=Aside0.mk hx536_0
                             clear hcc536 hce536
                             (simp only [add_plain] at hx536_0)
                             have HR536_0:=Aside0.mk hi536_0
                             have HC536_0:=Aside0.mk hl536_0
                             clear hi536_0 hl536_0
                             replace p536:=eq_true p536
                             replace q536:=eq_true q536
                             have ea_:=Option.some.inj (hx535_0.symm.trans hx536_0)
                             injection ea_ with ea_ en_ ec_
                             subst ea_
                             subst ec_
                             clear en_
                             have p537:0 ≤ (x7_2:Int):=of_decide_eq_true (by assumption)
                             have q537:x7_2 < ((rd_L10 y531 x6_1).length:Int):=of_decide_eq_true (by assumption)
                             obtain ⟨ad537,e537,hx537_0⟩:=Kd.at_int HR536_0.out x7_2 p537 q537
                             cases e537
                             replace p537:=eq_true p537
                             replace q537:=eq_true q537
                             have p538:0 ≤ ((ji38):Int):=of_decide_eq_true (by assumption)
                             have q538:(ji38) < (y531.length:Int):=(by have h_:((ji38):Int) < ((x5_2.length:Int):Int):=of_decide_eq_true (by assumption);(have e_:=(Kd.S_reads' HO_5.out).1;omega))
                             have ql538:(((ji38):Int) < ((x5_2.length:Int):Int)) = True:=eq_true (of_decide_eq_true (by assumption))
                             obtain ⟨ad538,A538_0,c538_0,e538,hx538_0,hl538_0,hi538_0⟩:=at_L10 (Kd.S_reads' HO_5.out).2.2 (ji38) p538 q538
                             obtain rfl:(⟨go14,0,none⟩:Addr) = ad538:=(by injection e538)
                             obtain ⟨ce538,hce538,hMe538,hcc538⟩:=Kd.S_get HO_5.out [] (ji38) p538 (by exact of_decide_eq_true (by assumption))
                             obtain ⟨ve538_0,rfl,ge538_0⟩:=hMe538
                             have hv538_0:=hcc538 0 _ rfl
                             rw [Nat.add_zero,show ((Kd.slice 3 (Kd.int .i64))).sz = 1 from rfl,Nat.mul_one] at hv538_0
                             replace hv538_0:=Option.some.inj (hv538_0.symm.trans hx538_0)
                             rw [hv538_0] at ge538_0
                             have HL538_0:=Aside0.mk (show Kd.R (Kd.int .i64) 3 _ _ _ _ (rd_L10 y531 (ji38)) from ge538_0)
                             clear hv538_0 ge538_0
                             have HX538_0:=Aside0.mk hx538_0
                             clear hcc538 hce538
                             (simp only [add_plain] at hx538_0)
                             have HR538_0:=Aside0.mk hi538_0
                             have HC538_0:=Aside0.mk hl538_0
                             clear hi538_0 hl538_0
                             replace p538:=eq_true p538
                             replace q538:=eq_true q538
                             have p539:0 ≤ ((ji43):Int):=of_decide_eq_true (by assumption)
                             have q539:(ji43) < ((rd_L10 y531 (ji38)).length:Int):=of_decide_eq_true (by assumption)
                             obtain ⟨ad539,e539,hx539_0⟩:=Kd.at_int HR538_0.out (ji43) p539 q539
                             cases e539
                             replace p539:=eq_true p539
                             replace q539:=eq_true q539
                             have p540:0 ≤ (x6_1:Int):=of_decide_eq_true (by assumption)
                             have q540:x6_1 < (l0.length:Int):=of_decide_eq_true (by assumption)
                             obtain ⟨ad540,A540_2,c540_2,e540,hx540_0,hx540_1,hx540_2,hl540_2,hi540_2⟩:=at_T26 HR0.out x6_1 p540 q540
                             have hw540_2:=hx540_2
                             have hw540_1:=hx540_1
                             have hw540_0:=hx540_0
                             obtain rfl:ad532 = ad540:=(by injection e540)
                             replace hx540_0:=(HB.out.cell (World.block_lt_of_cell? w _ hx540_0)).trans hx540_0
                             replace hx540_1:=(HB.out.cell (World.block_lt_of_cell? w _ hx540_1)).trans hx540_1
                             replace hx540_2:=(HB.out.cell (World.block_lt_of_cell? w _ hx540_2)).trans hx540_2
                             have HR540_2:=Aside0.mk hi540_2
                             have HC540_2:=Aside0.mk hl540_2
                             clear hi540_2 hl540_2
                             replace p540:=eq_true p540
                             replace q540:=eq_true q540
                             have p541:0 ≤ (x7_2:Int):=of_decide_eq_true (by assumption)
                             have q541:x7_2 < (l1.length:Int):=of_decide_eq_true (by assumption)
                             obtain ⟨ad541,A541_2,c541_2,e541,hx541_0,hx541_1,hx541_2,hl541_2,hi541_2⟩:=at_T26 HR1.out x7_2 p541 q541
                             have hw541_2:=hx541_2
                             have hw541_1:=hx541_1
                             have hw541_0:=hx541_0
                             obtain rfl:ad533 = ad541:=(by injection e541)
                             replace hx541_0:=(HB.out.cell (World.block_lt_of_cell? w _ hx541_0)).trans hx541_0
                             replace hx541_1:=(HB.out.cell (World.block_lt_of_cell? w _ hx541_1)).trans hx541_1
                             replace hx541_2:=(HB.out.cell (World.block_lt_of_cell? w _ hx541_2)).trans hx541_2
                             have HR541_2:=Aside0.mk hi541_2
                             have HC541_2:=Aside0.mk hl541_2
                             clear hi541_2 hl541_2
                             replace p541:=eq_true p541
                             replace q541:=eq_true q541
                             refine start_ (n:=34) (S:=fun w'=>w'.cell? ⟨go14,(x6_1).toNat,none⟩ = some (.slice (some ad537) (rd_L10 y531 x6_1).length c535_0) ∧ w'.cell? ⟨go14,(x6_1).toNat,none⟩ = some (.slice (some ad537) (rd_L10 y531 x6_1).length c535_0) ∧ w'.cell? (ad537.add (x7_2).toNat) = some (.int .i64 (rd (rd_L10 y531 x6_1) x7_2)) ∧ w'.cell? ⟨go14,((ji38)).toNat,none⟩ = some (.slice (some ad539) (rd_L10 y531 (ji38)).length c538_0) ∧ w'.cell? (ad539.add ((ji43)).toNat) = some (.int .i64 (rd (rd_L10 y531 (ji38)) (ji43))) ∧ w'.cell? (ad532.add ((x6_1).toNat * 3)) = some (.int .i64 ((rd_T26 l0 x6_1).f0)) ∧ w'.cell? ⟨(ad532.add ((x6_1).toNat * 3)).block,(ad532.add ((x6_1).toNat * 3)).off + 1,none⟩ = some (.int .i64 ((rd_T26 l0 x6_1).f1)) ∧ w'.cell? ⟨(ad532.add ((x6_1).toNat * 3)).block,(ad532.add ((x6_1).toNat * 3)).off + 2,none⟩ = some (.slice A540_2 ((rd_T26 l0 x6_1).f2).length c540_2) ∧ w'.cell? (ad533.add ((x7_2).toNat * 3)) = some (.int .i64 ((rd_T26 l1 x7_2).f0)) ∧ w'.cell? ⟨(ad533.add ((x7_2).toNat * 3)).block,(ad533.add ((x7_2).toNat * 3)).off + 1,none⟩ = some (.int .i64 ((rd_T26 l1 x7_2).f1)) ∧ w'.cell? ⟨(ad533.add ((x7_2).toNat * 3)).block,(ad533.add ((x7_2).toNat * 3)).off + 2,none⟩ = some (.slice A541_2 ((rd_T26 l1 x7_2).f2).length c541_2)) (ds:=[33]) #[false,false,false,false,false,false,false,false,false,false,false,false,false,false,false,false,false,false,false,false,false,false,false,false,false,false,false,false,false,false,false,false,false,false] (by kernel_rfl) rfl rfl ⟨hx535_0,hx536_0,hx537_0,hx538_0,hx539_0,((HB.out.cell (World.block_lt_of_cell? w _ hw540_0)).trans hw540_0),((HB.out.cell (World.block_lt_of_cell? w _ hw540_1)).trans hw540_1),((HB.out.cell (World.block_lt_of_cell? w _ hw540_2)).trans hw540_2),((HB.out.cell (World.block_lt_of_cell? w _ hw541_0)).trans hw541_0),((HB.out.cell (World.block_lt_of_cell? w _ hw541_1)).trans hw541_1),((HB.out.cell (World.block_lt_of_cell? w _ hw541_2)).trans hw541_2)⟩ (fun hHeld=>?_);refine with_tabW diff_table.tab11 diff_table.bits11 (fun HT_ HW_=>?_)
                             generalize w63.drew = w64 at HO_5 HB HL535_0 HL536_0 HL538_0 HR535_0 HR536_0 HR538_0 HR540_2 HR541_2 HX535_0 HX536_0 HX538_0 hx535_0 hx536_0 hx537_0 hx538_0 hx539_0 hx540_0 hx540_1 hx540_2 hx541_0 hx541_1 hx541_2 hHeld ⊢
                             refine pure_ (i:=0) (N:=some 64) (v:=?_) (a':=?_) (bm 1 34) rfl rfl (any_of HT_.out (by kernel_rfl)) (fun _ _ _ h=>h) (Or.inl ⟨by rfl,?_⟩) ?_ ?_
                             rotate_left
                             ·intro w'
                              go_simp
                              with_reducible rfl
                             rotate_left
                             ·simp only [Act.put,sA,sB,sC,i64_w,i32_w]
                              rfl
                             refine pure_ (i:=1) (N:=some 65) (v:=?_) (a':=?_) (bm 3 34) rfl rfl (any_of HT_.out (by kernel_rfl)) (fun _ _ _ h=>h) (Or.inl ⟨by rfl,?_⟩) ?_ ?_
                             rotate_left
                             ·intro w'
                              go_simp
                              with_reducible rfl
                             rotate_left
                             ·simp only [Act.put,sA,sB,sC,i64_w,i32_w]
                              rfl
                             refine pure_ (i:=2) (N:=some 66) (v:=?_) (a':=?_) (bm 7 34) rfl rfl (any_of HT_.out (by kernel_rfl)) (fun _ _ _ h=>h) (Or.inl ⟨by rfl,?_⟩) ?_ ?_
                             rotate_left
                             ·intro w'
                              go_simp
                              with_reducible rfl
                             rotate_left
                             ·simp only [Act.put,sA,sB,sC,i64_w,i32_w]
                              rfl
                             refine pure_ (i:=4) (N:=some 68) (v:=?_) (a':=?_) (bm 23 34) rfl rfl (any_of HT_.out (by kernel_rfl)) (fun _ _ _ h=>h) (Or.inl ⟨by rfl,?_⟩) ?_ ?_
                             rotate_left
                             ·intro w'
                              go_simp
                              with_reducible rfl
                             rotate_left
                             ·simp only [Act.put,sA,sB,sC,i64_w,i32_w]
                              rfl
                             refine pure_ (i:=5) (N:=some 69) (v:=?_) (a':=?_) (bm 55 34) rfl rfl (any_of HT_.out (by kernel_rfl)) (fun _ _ _ h=>h) (Or.inl ⟨by rfl,?_⟩) ?_ ?_
                             rotate_left
                             ·intro w'
                              go_simp
                              with_reducible rfl
                             rotate_left
                             ·simp only [Act.put,sA,sB,sC,i64_w,i32_w]
                              rfl
                             refine pure_ (i:=6) (N:=some 70) (v:=?_) (a':=?_) (bm 119 34) rfl rfl (any_of HT_.out (by kernel_rfl)) (fun _ _ _ h=>h) (Or.inl ⟨by rfl,?_⟩) ?_ ?_
                             rotate_left
                             ·intro w'
                              go_simp
                              with_reducible rfl
                             rotate_left
                             ·simp only [Act.put,sA,sB,sC,i64_w,i32_w]
                              rfl
                             refine pure_ (i:=7) (N:=some 71) (v:=?_) (a':=?_) (bm 247 34) rfl rfl (any_of HT_.out (by kernel_rfl)) (fun _ _ _ h=>h) (Or.inl ⟨by rfl,?_⟩) ?_ ?_
                             rotate_left
                             ·intro w'
                              go_simp
                              with_reducible rfl
                             rotate_left
                             ·simp only [Act.put,sA,sB,sC,i64_w,i32_w]
                              rfl
                             refine pure_ (i:=9) (N:=some 73) (v:=?_) (a':=?_) (bm 759 34) rfl rfl (any_of HT_.out (by kernel_rfl)) (fun _ _ _ h=>h) (Or.inl ⟨by rfl,?_⟩) ?_ ?_
                             rotate_left
                             ·intro w'
                              go_simp
                              with_reducible rfl
                             rotate_left
                             ·simp only [Act.put,sA,sB,sC,i64_w,i32_w]
                              rfl
                             refine pure_ (i:=12) (N:=some 76) (v:=?_) (a':=?_) (bm 4855 34) rfl rfl (any_of HT_.out (by kernel_rfl)) (fun _ _ _ h=>h) (Or.inl ⟨by rfl,?_⟩) ?_ ?_
                             rotate_left
                             ·intro w'
                              go_simp
                              with_reducible rfl
                             rotate_left
                             ·simp only [Act.put,sA,sB,sC,i64_w,i32_w]
                              rfl
                             refine pure_ (i:=13) (N:=some 77) (v:=?_) (a':=?_) (bm 13047 34) rfl rfl (any_of HT_.out (by kernel_rfl)) (fun _ _ _ h=>h) (Or.inl ⟨by rfl,?_⟩) ?_ ?_
                             rotate_left
                             ·intro w'
                              go_simp
                              with_reducible rfl
                             rotate_left
                             ·simp only [Act.put,sA,sB,sC,i64_w,i32_w]
                              rfl
                             refine pure_ (i:=14) (N:=some 78) (v:=?_) (a':=?_) (bm 29431 34) rfl rfl (any_of HT_.out (by kernel_rfl)) (fun _ _ _ h=>h) (Or.inl ⟨by rfl,?_⟩) ?_ ?_
                             rotate_left
                             ·intro w'
                              go_simp
                              with_reducible rfl
                             rotate_left
                             ·simp only [Act.put,sA,sB,sC,i64_w,i32_w]
                              rfl
                             refine pure_ (i:=15) (N:=some 79) (v:=?_) (a':=?_) (bm 62199 34) rfl rfl (any_of HT_.out (by kernel_rfl)) (fun _ _ _ h=>h) (Or.inl ⟨by rfl,?_⟩) ?_ ?_
                             rotate_left
                             ·intro w'
                              go_simp
                              with_reducible rfl
                             rotate_left
                             ·simp only [Act.put,sA,sB,sC,i64_w,i32_w]
                              rfl
                             refine pure_ (i:=17) (N:=some 81) (v:=?_) (a':=?_) (bm 193271 34) rfl rfl (any_of HT_.out (by kernel_rfl)) (fun _ _ _ h=>h) (Or.inl ⟨by rfl,?_⟩) ?_ ?_
                             rotate_left
                             ·intro w'
                              go_simp
                              with_reducible rfl
                             rotate_left
                             ·simp only [Act.put,sA,sB,sC,i64_w,i32_w]
                              rfl
                             refine pure_ (i:=18) (N:=some 82) (v:=?_) (a':=?_) (bm 455415 34) rfl rfl (any_of HT_.out (by kernel_rfl)) (fun _ _ _ h=>h) (Or.inl ⟨by rfl,?_⟩) ?_ ?_
                             rotate_left
                             ·intro w'
                              go_simp
                              with_reducible rfl
                             rotate_left
                             ·simp only [Act.put,sA,sB,sC,i64_w,i32_w]
                              rfl
                             refine pure_ (i:=21) (N:=some 85) (v:=?_) (a':=?_) (bm 2552567 34) rfl rfl (any_of HT_.out (by kernel_rfl)) (fun _ _ _ h=>h) (Or.inl ⟨by rfl,?_⟩) ?_ ?_
                             rotate_left
                             ·intro w'
                              go_simp
                              with_reducible rfl
                             rotate_left
                             ·simp only [Act.put,sA,sB,sC,i64_w,i32_w]
                              rfl
                             refine pure_ (i:=22) (N:=some 86) (v:=?_) (a':=?_) (bm 6746871 34) rfl rfl (any_of HT_.out (by kernel_rfl)) (fun _ _ _ h=>h) (Or.inl ⟨by rfl,?_⟩) ?_ ?_
                             rotate_left
                             ·intro w'
                              go_simp
                              with_reducible rfl
                             rotate_left
                             ·simp only [Act.put,sA,sB,sC,i64_w,i32_w]
                              rfl
                             refine pure_ (i:=23) (N:=some 87) (v:=?_) (a':=?_) (bm 15135479 34) rfl rfl (any_of HT_.out (by kernel_rfl)) (fun _ _ _ h=>h) (Or.inl ⟨by rfl,?_⟩) ?_ ?_
                             rotate_left
                             ·intro w'
                              go_simp
                              with_reducible rfl
                             rotate_left
                             ·simp only [Act.put,sA,sB,sC,i64_w,i32_w]
                              rfl
                             refine pure_ (i:=25) (N:=some 89) (v:=?_) (a':=?_) (bm 48689911 34) rfl rfl (any_of HT_.out (by kernel_rfl)) (fun _ _ _ h=>h) (Or.inl ⟨by rfl,?_⟩) ?_ ?_
                             rotate_left
                             ·intro w'
                              go_simp
                              with_reducible rfl
                             rotate_left
                             ·simp only [Act.put,sA,sB,sC,i64_w,i32_w]
                              rfl
                             refine pure_ (i:=26) (N:=some 90) (v:=?_) (a':=?_) (bm 115798775 34) rfl rfl (any_of HT_.out (by kernel_rfl)) (fun _ _ _ h=>h) (Or.inl ⟨by rfl,?_⟩) ?_ ?_
                             rotate_left
                             ·intro w'
                              go_simp
                              with_reducible rfl
                             rotate_left
                             ·simp only [Act.put,sA,sB,sC,i64_w,i32_w]
                              rfl
                             refine pure_ (i:=27) (N:=some 91) (v:=?_) (a':=?_) (bm 250016503 34) rfl rfl (any_of HT_.out (by kernel_rfl)) (fun _ _ _ h=>h) (Or.inl ⟨by rfl,?_⟩) ?_ ?_
                             rotate_left
                             ·intro w'
                              go_simp
                              with_reducible rfl
                             rotate_left
                             ·simp only [Act.put,sA,sB,sC,i64_w,i32_w]
                              rfl
                             refine take_ (i:=3) (N:=some 67) (v:=?_) (a':=?_) (bm 250016511 34) rfl rfl (take_ofW HT_.out HW_.out (by kernel_rfl)) (fun _ _ _ h=>h) (Or.inl ⟨by rfl,?_⟩) hHeld ?_ ?_
                             rotate_left
                             ·rintro w' ⟨s0,s1,s2,s3,s4,s5,s6,s7,s8,s9,s10⟩
                              go_simp
                              with_reducible rfl
                             rotate_left
                             ·simp only [Act.put,sA,sB,sC,i64_w,i32_w]
                              rfl
                             refine take_ (i:=8) (N:=some 72) (v:=?_) (a':=?_) (bm 250016767 34) rfl rfl (take_ofW HT_.out HW_.out (by kernel_rfl)) (fun _ _ _ h=>h) (Or.inl ⟨by rfl,?_⟩) hHeld ?_ ?_
                             rotate_left
                             ·rintro w' ⟨s0,s1,s2,s3,s4,s5,s6,s7,s8,s9,s10⟩
                              go_simp
                              with_reducible rfl
                             rotate_left
                             ·simp only [Act.put,sA,sB,sC,i64_w,i32_w]
                              rfl
                             refine pure_ (i:=10) (N:=some 74) (v:=?_) (a':=?_) (bm 250017791 34) rfl rfl (any_of HT_.out (by kernel_rfl)) (fun _ _ _ h=>h) (Or.inl ⟨by rfl,?_⟩) ?_ ?_
                             rotate_left
                             ·intro w'
                              go_simp
                              with_reducible rfl
                             rotate_left
                             ·simp only [Act.put,sA,sB,sC,i64_w,i32_w]
                              rfl
                             refine take_ (i:=11) (N:=some 75) (v:=?_) (a':=?_) (bm 250019839 34) rfl rfl (take_ofW HT_.out HW_.out (by kernel_rfl)) (fun _ _ _ h=>h) (Or.inl ⟨by rfl,?_⟩) hHeld ?_ ?_
                             rotate_left
                             ·rintro w' ⟨s0,s1,s2,s3,s4,s5,s6,s7,s8,s9,s10⟩
                              go_simp
                              with_reducible rfl
                             rotate_left
                             ·simp only [Act.put,sA,sB,sC,i64_w,i32_w]
                              rfl
                             refine take_ (i:=16) (N:=some 80) (v:=?_) (a':=?_) (bm 250085375 34) rfl rfl (take_ofW HT_.out HW_.out (by kernel_rfl)) (fun _ _ _ h=>h) (Or.inl ⟨by rfl,?_⟩) hHeld ?_ ?_
                             rotate_left
                             ·rintro w' ⟨s0,s1,s2,s3,s4,s5,s6,s7,s8,s9,s10⟩
                              go_simp
                              with_reducible rfl
                             rotate_left
                             ·simp only [Act.put,sA,sB,sC,i64_w,i32_w]
                              rfl
                             refine pure_ (i:=19) (N:=some 83) (v:=?_) (a':=?_) (bm 250609663 34) rfl rfl (any_of HT_.out (by kernel_rfl)) (fun _ _ _ h=>h) (Or.inl ⟨by rfl,?_⟩) ?_ ?_
                             rotate_left
                             ·intro w'
                              go_simp
                              with_reducible rfl
                             rotate_left
                             ·simp only [Act.put,sA,sB,sC,i64_w,i32_w]
                              rfl
                             refine take_ (i:=20) (N:=some 84) (v:=?_) (a':=?_) (bm 251658239 34) rfl rfl (take_ofW HT_.out HW_.out (by kernel_rfl)) (fun _ _ _ h=>h) (Or.inl ⟨by rfl,?_⟩) hHeld ?_ ?_
                             rotate_left
                             ·rintro w' ⟨s0,s1,s2,s3,s4,s5,s6,s7,s8,s9,s10⟩
                              go_simp
                              with_reducible rfl
                             rotate_left
                             ·simp only [Act.put,sA,sB,sC,i64_w,i32_w]
                              rfl
                             refine take_ (i:=24) (N:=some 88) (v:=?_) (a':=?_) (bm 268435455 34) rfl rfl (take_ofW HT_.out HW_.out (by kernel_rfl)) (fun _ _ _ h=>h) (Or.inl ⟨by rfl,?_⟩) hHeld ?_ ?_
                             rotate_left
                             ·rintro w' ⟨s0,s1,s2,s3,s4,s5,s6,s7,s8,s9,s10⟩
                              go_simp
                              with_reducible rfl
                             rotate_left
                             ·simp only [Act.put,sA,sB,sC,i64_w,i32_w]
                              rfl
                             refine take_ (i:=28) (N:=some 92) (v:=?_) (a':=?_) (bm 536870911 34) rfl rfl (take_ofW HT_.out HW_.out (by kernel_rfl)) (fun _ _ _ h=>h) (Or.inl ⟨by rfl,?_⟩) hHeld ?_ ?_
                             rotate_left
                             ·rintro w' ⟨s0,s1,s2,s3,s4,s5,s6,s7,s8,s9,s10⟩
                              go_simp
                              with_reducible rfl
                             rotate_left
                             ·simp only [Act.put,sA,sB,sC,i64_w,i32_w]
                              rfl
                             refine one_ (i:=29) (N:=some 93) (bm 1073741823 34) rfl rfl (one_of HT_.out (by kernel_rfl)) (by decide) (fun K hK=>?_)
                             refine goes_ Try.func134 (by kernel_rfl) rfl #[.agg #[.int .i64 ((rd_T26 l0 x6_1).f0),.int .i64 ((rd_T26 l0 x6_1).f1),.slice A540_2 ((rd_T26 l0 x6_1).f2).length c540_2],.agg #[.int .i64 ((rd_T26 l1 x7_2).f0),.int .i64 ((rd_T26 l1 x7_2).f1),.slice A541_2 ((rd_T26 l1 x7_2).f2).length c541_2]] (by rfl) rfl rfl (by (try simp only [List.map_toArray,List.map_cons,List.map_nil]);rfl) ?_
                             with_reducible refine (diff_price.calls k2 ((rd_T26 l0 x6_1).f0) ((rd_T26 l0 x6_1).f1) _ _ ((rd_T26 l0 x6_1).f2) ((rd_T26 l1 x7_2).f0) ((rd_T26 l1 x7_2).f1) _ _ ((rd_T26 l1 x7_2).f2) t542 _ ?side1 ?side2 ?side3 ?side4 A55.out).mono ?_
                             (case side1=>repeat (exact (Kd.C_below HR540_2.out HB.out)))
                             (case side2=>exact HC540_2.out)
                             (case side3=>repeat (exact (Kd.C_below HR541_2.out HB.out)))
                             (case side4=>exact HC541_2.out)
                             rintro e w65 ⟨rfl,hb⟩
                             have HS0_:=(hb.cell (World.block_lt_of_cell? _ _ (hHeld.1))).trans (hHeld.1)
                             have HS1_:=(hb.cell (World.block_lt_of_cell? _ _ (hHeld.2.1))).trans (hHeld.2.1)
                             have HS2_:=(hb.cell (World.block_lt_of_cell? _ _ (hHeld.2.2.1))).trans (hHeld.2.2.1)
                             have HS3_:=(hb.cell (World.block_lt_of_cell? _ _ (hHeld.2.2.2.1))).trans (hHeld.2.2.2.1)
                             have HS4_:=(hb.cell (World.block_lt_of_cell? _ _ (hHeld.2.2.2.2.1))).trans (hHeld.2.2.2.2.1)
                             refine ⟨_,rfl,?_⟩
                             have n0_:=Aside0.mk (Kd.S_below HO_5.out hb)
                             have n1_:=Aside0.mk (Kd.R_below HL535_0.out hb)
                             have n2_:=Aside0.mk (Kd.R_below HL536_0.out hb)
                             have n3_:=Aside0.mk (Kd.R_below HL538_0.out hb)
                             have n4_:=Aside0.mk (Kd.C_below HR535_0.out hb)
                             have n5_:=Aside0.mk (pw_cell_below hb HX535_0.out)
                             have n6_:=Aside0.mk (Kd.C_below HR536_0.out hb)
                             have n7_:=Aside0.mk (pw_cell_below hb HX536_0.out)
                             have n8_:=Aside0.mk (Kd.C_below HR538_0.out hb)
                             have n9_:=Aside0.mk (pw_cell_below hb HX538_0.out)
                             have n10_:=Aside0.mk (below_step (by with_reducible exact HB.out) hb)
                             clear HO_5
                             clear HL535_0
                             clear HL536_0
                             clear HL538_0
                             clear HR535_0
                             clear HX535_0
                             clear HR536_0
                             clear HX536_0
                             clear HR538_0
                             clear HX538_0
                             clear HB
                             have HO_5:=n0_
                             have HL535_0:=n1_
                             have HL536_0:=n2_
                             have HL538_0:=n3_
                             have HR535_0:=n4_
                             have HX535_0:=n5_
                             have HR536_0:=n6_
                             have HX536_0:=n7_
                             have HR538_0:=n8_
                             have HX538_0:=n9_
                             have HB:=n10_
                             clear n0_ n1_ n2_ n3_ n4_ n5_ n6_ n7_ n8_ n9_ n10_
                             (try clear hb)
                             (try clear hb2)
                             (try clear hk)
                             (try clear hi)
                             have p57:0 ≤ (x7_2:Int):=of_decide_eq_true (by assumption)
                             have q57:(x7_2:Int) < (((rd_L10 y531 x6_1).length:Int):Int):=of_decide_eq_true (by assumption)
                             obtain ⟨go57,co57,eo57,gb57,gl57,cl57,HG57⟩:=Kd.R_form HL535_0.out (by omega)
                             (first | cases eo57 | (injection eo57 with ea_ en_ ec_;(first | subst ea_ | (injection ea_ with ea_;subst ea_));subst ec_;clear en_))
                             have GB57:=Aside0.mk gb57
                             have GG57:=Aside0.mk HG57
                             clear gb57 gl57 HG57
                             (simp only [add_plain] at hx537_0)
                             obtain ⟨hx57_0,hf57_0⟩:=Kd.R_celln 0 HL535_0.out (x7_2:Int) p57 q57
                             replace p57:=eq_true p57
                             replace q57:=eq_true q57
                             have hq66:(x6_1:Int) < (x5_2.length:Int):=(by have h_:(x6_1:Int) < ((x5_2.length:Int):Int):=of_decide_eq_true (by assumption);exact h_)
                             obtain ⟨oki66,ce66,hcl66,hM66,hcc66,hok66,hbk66⟩:=Kd.S_borrow HO_5.out [] (x6_1:Int) (of_decide_eq_true (by assumption)) hq66
                             obtain ⟨ve66_0,rfl,ge66_0⟩:=hM66
                             have hv66:=hcc66 0 _ rfl
                             rw [Nat.add_zero,show ((Kd.slice 3 (Kd.int .i64))).sz = 1 from rfl,Nat.mul_one] at hv66
                             replace hv66:=Option.some.inj (hv66.symm.trans HX535_0.out)
                             subst hv66
                             clear hcc66 hcl66
                             replace ge66_0:=(show Kd.R (Kd.int .i64) 3 _ _ _ _ (rd_L10 y531 x6_1) from ge66_0)
                             have HP66:=Kd.R_putg ge66_0 (x7_2:Int) ji56
                             rw [← Ny543.out] at HP66
                             have HS66:=hbk66 HP66.2 (fun k_ e_=>by injection e_ with e_;subst e_;exact ge66_0.1 _ rfl) (x':=y543) (Kd.M_row HP66.1)
                             rw [← Ny545.out] at HS66
                             have HQ66:=Aside0.mk HS66
                             clear HP66 HS66 hbk66 hok66
                             refine hK.out _ _ ⟨HS0_,HS1_,HS2_,HS3_,HS4_,((HB.out.cell (World.block_lt_of_cell? w _ hw540_0)).trans hw540_0),((HB.out.cell (World.block_lt_of_cell? w _ hw540_1)).trans hw540_1),((HB.out.cell (World.block_lt_of_cell? w _ hw540_2)).trans hw540_2),((HB.out.cell (World.block_lt_of_cell? w _ hw541_0)).trans hw541_0),((HB.out.cell (World.block_lt_of_cell? w _ hw541_1)).trans hw541_1),((HB.out.cell (World.block_lt_of_cell? w _ hw541_2)).trans hw541_2)⟩ (fun hHeld=>?_)
                             clear hK K
                             refine norm_ (a':=?_) ?_ ?_
                             rotate_left
                             ·show Act.put _ (some 93) _ = _
                              simp only [Act.put,sA,sB,sC,i64_w,i32_w]
                              rfl
                             refine pure_ (i:=30) (N:=some 94) (v:=?_) (a':=?_) (bm 2147483647 34) rfl rfl (any_of HT_.out (by kernel_rfl)) (fun _ _ _ h=>h) (Or.inl ⟨by rfl,?_⟩) ?_ ?_
                             rotate_left
                             ·intro w'
                              go_simp
                              with_reducible rfl
                             rotate_left
                             ·simp only [Act.put,sA,sB,sC,i64_w,i32_w]
                              rfl
                             refine pure_ (i:=31) (N:=some 95) (v:=?_) (a':=?_) (bm 4294967295 34) rfl rfl (any_of HT_.out (by kernel_rfl)) (fun _ _ _ h=>h) (Or.inl ⟨by rfl,?_⟩) ?_ ?_
                             rotate_left
                             ·intro w'
                              go_simp
                              with_reducible rfl
                             rotate_left
                             ·simp only [Act.put,sA,sB,sC,i64_w,i32_w]
                              rfl
                             refine pure_ (i:=32) (N:=some 96) (v:=?_) (a':=?_) (bm 8589934591 34) rfl rfl (any_of HT_.out (by kernel_rfl)) (fun _ _ _ h=>h) (Or.inl ⟨by rfl,?_⟩) ?_ ?_
                             rotate_left
                             ·intro w'
                              go_simp
                              with_reducible rfl
                             rotate_left
                             ·simp only [Act.put,sA,sB,sC,i64_w,i32_w]
                              rfl
                             refine last_ (i:=33) (N:=none) (bm 17179869183 34) rfl rfl (one_of HT_.out (by kernel_rfl)) (by decide) (fun K hK=>?_)
                             refine skip_ (w1:=?_) (by rfl) rfl ?_ ?_
                             rotate_left
                             ·go_simp
                              rfl
                             refine hK.out _ _ ?_
                             clear hK K
                             refine done_ (done_of HT_.out (by kernel_rfl)) ?_
                             try go_wp2
                             (try simp only [← hl5_2])
                             go_roundg k2
                             case measure=>have:=HK1.out;have:=HK2.out;omega
                             case rel=>exact ⟨(y545),(wrap64 (x7_2 - 1)),(by rfl),H',⟨by have:=HK1.out;have:=HK2.out;omega⟩,⟨by (try simp only [hl5_2]);exact HQ66.out⟩,⟨by repeat ((with_reducible first | exact HB.out | refine below_set ?_ GB57.out))⟩⟩
                            ·rw [if_neg c54] at H
                             exact absurd H (by simp)
                           ·rw [if_neg c53] at H
                            exact absurd H (by simp)
                          ·replace c52:=Bool.eq_false_iff.mpr c52
                           subst c52
                           have H1:(diff_table.l1 k2 l0 l1 y531 x6_1 (wrap64 (x7_2 - 1))) = some r:=by rw [if_neg (show ¬ (false = true) by decide)] at H;exact H
                           clear H
                           have H:=H1
                           clear H1
                           have H':=Aside0.mk H
                           clear H
                           try go_wp2
                           have n0_:=Aside0.mk (Kd.S_drew HO_5.out)
                           have n1_:=Aside0.mk (below_drew1 HB.out)
                           clear HO_5
                           clear HB
                           have HO_5:=n0_
                           have HB:=n1_
                           clear n0_ n1_
                           have p524:0 ≤ (x6_1:Int):=of_decide_eq_true (by assumption)
                           have q524:x6_1 < (x5_2.length:Int):=of_decide_eq_true (by assumption)
                           obtain ⟨ad524,A524_0,c524_0,e524,hx524_0,hl524_0,hi524_0⟩:=at_L10 (Kd.S_reads' HO_5.out).2.2 x6_1 p524 q524
                           obtain rfl:(⟨go14,0,none⟩:Addr) = ad524:=(by injection e524)
                           obtain ⟨ce524,hce524,hMe524,hcc524⟩:=Kd.S_get HO_5.out [] x6_1 p524 q524
                           obtain ⟨ve524_0,rfl,ge524_0⟩:=hMe524
                           have hv524_0:=hcc524 0 _ rfl
                           rw [Nat.add_zero,show ((Kd.slice 3 (Kd.int .i64))).sz = 1 from rfl,Nat.mul_one] at hv524_0
                           replace hv524_0:=Option.some.inj (hv524_0.symm.trans hx524_0)
                           rw [hv524_0] at ge524_0
                           have HL524_0:=Aside0.mk (show Kd.R (Kd.int .i64) 3 _ _ _ _ (rd_L10 x5_2 x6_1) from ge524_0)
                           clear hv524_0 ge524_0
                           have HX524_0:=Aside0.mk hx524_0
                           clear hcc524 hce524
                           (simp only [add_plain] at hx524_0)
                           have HR524_0:=Aside0.mk hi524_0
                           have HC524_0:=Aside0.mk hl524_0
                           clear hi524_0 hl524_0
                           replace p524:=eq_true p524
                           replace q524:=eq_true q524
                           have p525:0 ≤ ((ji38):Int):=of_decide_eq_true (by assumption)
                           have q525:(ji38) < (x5_2.length:Int):=of_decide_eq_true (by assumption)
                           obtain ⟨ad525,A525_0,c525_0,e525,hx525_0,hl525_0,hi525_0⟩:=at_L10 (Kd.S_reads' HO_5.out).2.2 (ji38) p525 q525
                           obtain rfl:(⟨go14,0,none⟩:Addr) = ad525:=(by injection e525)
                           obtain ⟨ce525,hce525,hMe525,hcc525⟩:=Kd.S_get HO_5.out [] (ji38) p525 q525
                           obtain ⟨ve525_0,rfl,ge525_0⟩:=hMe525
                           have hv525_0:=hcc525 0 _ rfl
                           rw [Nat.add_zero,show ((Kd.slice 3 (Kd.int .i64))).sz = 1 from rfl,Nat.mul_one] at hv525_0
                           replace hv525_0:=Option.some.inj (hv525_0.symm.trans hx525_0)
                           rw [hv525_0] at ge525_0
                           have HL525_0:=Aside0.mk (show Kd.R (Kd.int .i64) 3 _ _ _ _ (rd_L10 x5_2 (ji38)) from ge525_0)
                           clear hv525_0 ge525_0
                           have HX525_0:=Aside0.mk hx525_0
                           clear hcc525 hce525
                           (simp only [add_plain] at hx525_0)
                           have HR525_0:=Aside0.mk hi525_0
                           have HC525_0:=Aside0.mk hl525_0
                           clear hi525_0 hl525_0
                           replace p525:=eq_true p525
                           replace q525:=eq_true q525
                           have p526:0 ≤ (x7_2:Int):=of_decide_eq_true (by assumption)
                           have q526:x7_2 < ((rd_L10 x5_2 (ji38)).length:Int):=of_decide_eq_true (by assumption)
                           obtain ⟨ad526,e526,hx526_0⟩:=Kd.at_int HR525_0.out x7_2 p526 q526
                           cases e526
                           replace p526:=eq_true p526
                           replace q526:=eq_true q526
                           have p527:0 ≤ (x6_1:Int):=of_decide_eq_true (by assumption)
                           have q527:x6_1 < (x5_2.length:Int):=of_decide_eq_true (by assumption)
                           obtain ⟨ad527,A527_0,c527_0,e527,hx527_0,hl527_0,hi527_0⟩:=at_L10 (Kd.S_reads' HO_5.out).2.2 x6_1 p527 q527
                           obtain rfl:(⟨go14,0,none⟩:Addr) = ad527:=(by injection e527)
                           obtain ⟨ce527,hce527,hMe527,hcc527⟩:=Kd.S_get HO_5.out [] x6_1 p527 q527
                           obtain ⟨ve527_0,rfl,ge527_0⟩:=hMe527
                           have hv527_0:=hcc527 0 _ rfl
                           rw [Nat.add_zero,show ((Kd.slice 3 (Kd.int .i64))).sz = 1 from rfl,Nat.mul_one] at hv527_0
                           replace hv527_0:=Option.some.inj (hv527_0.symm.trans hx527_0)
                           rw [hv527_0] at ge527_0
                           have HL527_0:=Aside0.mk (show Kd.R (Kd.int .i64) 3 _ _ _ _ (rd_L10 x5_2 x6_1) from ge527_0)
                           clear hv527_0 ge527_0
                           have HX527_0:=Aside0.mk hx527_0
                           clear hcc527 hce527
                           (simp only [add_plain] at hx527_0)
                           have HR527_0:=Aside0.mk hi527_0
                           have HC527_0:=Aside0.mk hl527_0
                           clear hi527_0 hl527_0
                           replace p527:=eq_true p527
                           replace q527:=eq_true q527
                           have ea_:=Option.some.inj (hx524_0.symm.trans hx527_0)
                           injection ea_ with ea_ en_ ec_
                           subst ea_
                           subst ec_
                           clear en_
                           have p528:0 ≤ ((ji43):Int):=of_decide_eq_true (by assumption)
                           have q528:(ji43) < ((rd_L10 x5_2 x6_1).length:Int):=of_decide_eq_true (by assumption)
                           obtain ⟨ad528,e528,hx528_0⟩:=Kd.at_int HR527_0.out (ji43) p528 q528
                           cases e528
                           replace p528:=eq_true p528
                           replace q528:=eq_true q528
                           have p48:0 ≤ (x7_2:Int):=of_decide_eq_true (by assumption)
                           have q48:(x7_2:Int) < (((rd_L10 x5_2 x6_1).length:Int):Int):=of_decide_eq_true (by assumption)
                           obtain ⟨go48,co48,eo48,gb48,gl48,cl48,HG48⟩:=Kd.R_form HL524_0.out (by omega)
                           (first | cases eo48 | (injection eo48 with ea_ en_ ec_;(first | subst ea_ | (injection ea_ with ea_;subst ea_));subst ec_;clear en_))
                           have GB48:=Aside0.mk gb48
                           have GG48:=Aside0.mk HG48
                           clear gb48 gl48 HG48
                           (simp only [add_plain] at hx528_0)
                           obtain ⟨hx48_0,hf48_0⟩:=Kd.R_celln 0 HL524_0.out (x7_2:Int) p48 q48
                           replace p48:=eq_true p48
                           replace q48:=eq_true q48
                           have hq69:(x6_1:Int) < (x5_2.length:Int):=(by have h_:(x6_1:Int) < ((x5_2.length:Int):Int):=of_decide_eq_true (by assumption);exact h_)
                           obtain ⟨oki69,ce69,hcl69,hM69,hcc69,hok69,hbk69⟩:=Kd.S_borrow HO_5.out [] (x6_1:Int) (of_decide_eq_true (by assumption)) hq69
                           obtain ⟨ve69_0,rfl,ge69_0⟩:=hM69
                           have hv69:=hcc69 0 _ rfl
                           rw [Nat.add_zero,show ((Kd.slice 3 (Kd.int .i64))).sz = 1 from rfl,Nat.mul_one] at hv69
                           replace hv69:=Option.some.inj (hv69.symm.trans HX524_0.out)
                           subst hv69
                           clear hcc69 hcl69
                           replace ge69_0:=(show Kd.R (Kd.int .i64) 3 _ _ _ _ (rd_L10 x5_2 x6_1) from ge69_0)
                           have HP69:=Kd.R_putg ge69_0 (x7_2:Int) (wrap64 (1 + (ji46)))
                           rw [← Ny529.out] at HP69
                           have HS69:=hbk69 HP69.2 (fun k_ e_=>by injection e_ with e_;subst e_;exact ge69_0.1 _ rfl) (x':=y529) (Kd.M_row HP69.1)
                           rw [← Ny531.out] at HS69
                           have HQ69:=Aside0.mk HS69
                           clear HP69 HS69 hbk69 hok69
                           refine start_ (n:=25) (S:=fun w'=>w'.cell? ⟨go14,(x6_1).toNat,none⟩ = some (.slice (some ⟨go48,0,none⟩) (rd_L10 x5_2 x6_1).length c524_0) ∧ w'.cell? ⟨go14,((ji38)).toNat,none⟩ = some (.slice (some ad526) (rd_L10 x5_2 (ji38)).length c525_0) ∧ w'.cell? (ad526.add (x7_2).toNat) = some (.int .i64 (rd (rd_L10 x5_2 (ji38)) x7_2)) ∧ w'.cell? ⟨go14,(x6_1).toNat,none⟩ = some (.slice (some ⟨go48,0,none⟩) (rd_L10 x5_2 x6_1).length c524_0) ∧ w'.cell? ⟨go48,((ji43)).toNat,none⟩ = some (.int .i64 (rd (rd_L10 x5_2 x6_1) (ji43)))) (ds:=[24]) #[false,false,false,false,false,false,false,false,false,false,false,false,false,false,false,false,false,false,false,false,false,false,false,false,false] (by kernel_rfl) rfl rfl ⟨hx524_0,hx525_0,hx526_0,hx527_0,hx528_0⟩ (fun hHeld=>?_);refine with_tabW diff_table.tab9 diff_table.bits9 (fun HT_ HW_=>?_)
                           generalize wr.drew = w68 at HO_5 HB GG48 HL524_0 HL525_0 HL527_0 HQ69 HR524_0 HR525_0 HR527_0 HX524_0 HX525_0 HX527_0 hf48_0 hx48_0 hx524_0 hx525_0 hx526_0 hx527_0 hx528_0 hHeld ⊢
                           refine pure_ (i:=0) (N:=some 31) (v:=?_) (a':=?_) (bm 1 25) rfl rfl (any_of HT_.out (by kernel_rfl)) (fun _ _ _ h=>h) (Or.inl ⟨by rfl,?_⟩) ?_ ?_
                           rotate_left
                           ·intro w'
                            go_simp
                            with_reducible rfl
                           rotate_left
                           ·simp only [Act.put,sA,sB,sC,i64_w,i32_w]
                            rfl
                           refine pure_ (i:=1) (N:=some 32) (v:=?_) (a':=?_) (bm 3 25) rfl rfl (any_of HT_.out (by kernel_rfl)) (fun _ _ _ h=>h) (Or.inl ⟨by rfl,?_⟩) ?_ ?_
                           rotate_left
                           ·intro w'
                            go_simp
                            with_reducible rfl
                           rotate_left
                           ·simp only [Act.put,sA,sB,sC,i64_w,i32_w]
                            rfl
                           refine pure_ (i:=2) (N:=some 33) (v:=?_) (a':=?_) (bm 7 25) rfl rfl (any_of HT_.out (by kernel_rfl)) (fun _ _ _ h=>h) (Or.inl ⟨by rfl,?_⟩) ?_ ?_
                           rotate_left
                           ·intro w'
                            go_simp
                            with_reducible rfl
                           rotate_left
                           ·simp only [Act.put,sA,sB,sC,i64_w,i32_w]
                            rfl
                           refine pure_ (i:=4) (N:=some 35) (v:=?_) (a':=?_) (bm 23 25) rfl rfl (any_of HT_.out (by kernel_rfl)) (fun _ _ _ h=>h) (Or.inl ⟨by rfl,?_⟩) ?_ ?_
                           rotate_left
                           ·intro w'
                            go_simp
                            with_reducible rfl
                           rotate_left
                           ·simp only [Act.put,sA,sB,sC,i64_w,i32_w]
                            rfl
                           refine pure_ (i:=5) (N:=some 36) (v:=?_) (a':=?_) (bm 55 25) rfl rfl (any_of HT_.out (by kernel_rfl)) (fun _ _ _ h=>h) (Or.inl ⟨by rfl,?_⟩) ?_ ?_
                           rotate_left
                           ·intro w'
                            go_simp
                            with_reducible rfl
                           rotate_left
                           ·simp only [Act.put,sA,sB,sC,i64_w,i32_w]
                            rfl
                           refine pure_ (i:=6) (N:=some 37) (v:=?_) (a':=?_) (bm 119 25) rfl rfl (any_of HT_.out (by kernel_rfl)) (fun _ _ _ h=>h) (Or.inl ⟨by rfl,?_⟩) ?_ ?_
                           rotate_left
                           ·intro w'
                            go_simp
                            with_reducible rfl
                           rotate_left
                           ·simp only [Act.put,sA,sB,sC,i64_w,i32_w]
                            rfl
                           refine pure_ (i:=7) (N:=some 38) (v:=?_) (a':=?_) (bm 247 25) rfl rfl (any_of HT_.out (by kernel_rfl)) (fun _ _ _ h=>h) (Or.inl ⟨by rfl,?_⟩) ?_ ?_
                           rotate_left
                           ·intro w'
                            go_simp
                            with_reducible rfl
                           rotate_left
                           ·simp only [Act.put,sA,sB,sC,i64_w,i32_w]
                            rfl
                           refine pure_ (i:=8) (N:=some 39) (v:=?_) (a':=?_) (bm 503 25) rfl rfl (any_of HT_.out (by kernel_rfl)) (fun _ _ _ h=>h) (Or.inl ⟨by rfl,?_⟩) ?_ ?_
                           rotate_left
                           ·intro w'
                            go_simp
                            with_reducible rfl
                           rotate_left
                           ·simp only [Act.put,sA,sB,sC,i64_w,i32_w]
                            rfl
                           refine pure_ (i:=10) (N:=some 41) (v:=?_) (a':=?_) (bm 1527 25) rfl rfl (any_of HT_.out (by kernel_rfl)) (fun _ _ _ h=>h) (Or.inl ⟨by rfl,?_⟩) ?_ ?_
                           rotate_left
                           ·intro w'
                            go_simp
                            with_reducible rfl
                           rotate_left
                           ·simp only [Act.put,sA,sB,sC,i64_w,i32_w]
                            rfl
                           refine pure_ (i:=13) (N:=some 44) (v:=?_) (a':=?_) (bm 9719 25) rfl rfl (any_of HT_.out (by kernel_rfl)) (fun _ _ _ h=>h) (Or.inl ⟨by rfl,?_⟩) ?_ ?_
                           rotate_left
                           ·intro w'
                            go_simp
                            with_reducible rfl
                           rotate_left
                           ·simp only [Act.put,sA,sB,sC,i64_w,i32_w]
                            rfl
                           refine pure_ (i:=14) (N:=some 45) (v:=?_) (a':=?_) (bm 26103 25) rfl rfl (any_of HT_.out (by kernel_rfl)) (fun _ _ _ h=>h) (Or.inl ⟨by rfl,?_⟩) ?_ ?_
                           rotate_left
                           ·intro w'
                            go_simp
                            with_reducible rfl
                           rotate_left
                           ·simp only [Act.put,sA,sB,sC,i64_w,i32_w]
                            rfl
                           refine pure_ (i:=15) (N:=some 46) (v:=?_) (a':=?_) (bm 58871 25) rfl rfl (any_of HT_.out (by kernel_rfl)) (fun _ _ _ h=>h) (Or.inl ⟨by rfl,?_⟩) ?_ ?_
                           rotate_left
                           ·intro w'
                            go_simp
                            with_reducible rfl
                           rotate_left
                           ·simp only [Act.put,sA,sB,sC,i64_w,i32_w]
                            rfl
                           refine pure_ (i:=17) (N:=some 48) (v:=?_) (a':=?_) (bm 189943 25) rfl rfl (any_of HT_.out (by kernel_rfl)) (fun _ _ _ h=>h) (Or.inl ⟨by rfl,?_⟩) ?_ ?_
                           rotate_left
                           ·intro w'
                            go_simp
                            with_reducible rfl
                           rotate_left
                           ·simp only [Act.put,sA,sB,sC,i64_w,i32_w]
                            rfl
                           refine pure_ (i:=18) (N:=some 49) (v:=?_) (a':=?_) (bm 452087 25) rfl rfl (any_of HT_.out (by kernel_rfl)) (fun _ _ _ h=>h) (Or.inl ⟨by rfl,?_⟩) ?_ ?_
                           rotate_left
                           ·intro w'
                            go_simp
                            with_reducible rfl
                           rotate_left
                           ·simp only [Act.put,sA,sB,sC,i64_w,i32_w]
                            rfl
                           refine take_ (i:=3) (N:=some 34) (v:=?_) (a':=?_) (bm 452095 25) rfl rfl (take_ofW HT_.out HW_.out (by kernel_rfl)) (fun _ _ _ h=>h) (Or.inl ⟨by rfl,?_⟩) hHeld ?_ ?_
                           rotate_left
                           ·rintro w' ⟨s0,s1,s2,s3,s4⟩
                            go_simp
                            with_reducible rfl
                           rotate_left
                           ·simp only [Act.put,sA,sB,sC,i64_w,i32_w]
                            rfl
                           refine take_ (i:=9) (N:=some 40) (v:=?_) (a':=?_) (bm 452607 25) rfl rfl (take_ofW HT_.out HW_.out (by kernel_rfl)) (fun _ _ _ h=>h) (Or.inl ⟨by rfl,?_⟩) hHeld ?_ ?_
                           rotate_left
                           ·rintro w' ⟨s0,s1,s2,s3,s4⟩
                            go_simp
                            with_reducible rfl
                           rotate_left
                           ·simp only [Act.put,sA,sB,sC,i64_w,i32_w]
                            rfl
                           refine pure_ (i:=11) (N:=some 42) (v:=?_) (a':=?_) (bm 454655 25) rfl rfl (any_of HT_.out (by kernel_rfl)) (fun _ _ _ h=>h) (Or.inl ⟨by rfl,?_⟩) ?_ ?_
                           rotate_left
                           ·intro w'
                            go_simp
                            with_reducible rfl
                           rotate_left
                           ·simp only [Act.put,sA,sB,sC,i64_w,i32_w]
                            rfl
                           refine take_ (i:=12) (N:=some 43) (v:=?_) (a':=?_) (bm 458751 25) rfl rfl (take_ofW HT_.out HW_.out (by kernel_rfl)) (fun _ _ _ h=>h) (Or.inl ⟨by rfl,?_⟩) hHeld ?_ ?_
                           rotate_left
                           ·rintro w' ⟨s0,s1,s2,s3,s4⟩
                            go_simp
                            with_reducible rfl
                           rotate_left
                           ·simp only [Act.put,sA,sB,sC,i64_w,i32_w]
                            rfl
                           refine take_ (i:=16) (N:=some 47) (v:=?_) (a':=?_) (bm 524287 25) rfl rfl (take_ofW HT_.out HW_.out (by kernel_rfl)) (fun _ _ _ h=>h) (Or.inl ⟨by rfl,?_⟩) hHeld ?_ ?_
                           rotate_left
                           ·rintro w' ⟨s0,s1,s2,s3,s4⟩
                            go_simp
                            with_reducible rfl
                           rotate_left
                           ·simp only [Act.put,sA,sB,sC,i64_w,i32_w]
                            rfl
                           refine pure_ (i:=19) (N:=some 50) (v:=?_) (a':=?_) (bm 1048575 25) rfl rfl (any_of HT_.out (by kernel_rfl)) (fun _ _ _ h=>h) (Or.inl ⟨by rfl,?_⟩) ?_ ?_
                           rotate_left
                           ·intro w'
                            go_simp
                            with_reducible rfl
                           rotate_left
                           ·simp only [Act.put,sA,sB,sC,i64_w,i32_w]
                            rfl
                           refine take_ (i:=20) (N:=some 51) (v:=?_) (a':=?_) (bm 2097151 25) rfl rfl (take_ofW HT_.out HW_.out (by kernel_rfl)) (fun _ _ _ h=>h) (Or.inl ⟨by rfl,?_⟩) hHeld ?_ ?_
                           rotate_left
                           ·rintro w' ⟨s0,s1,s2,s3,s4⟩
                            go_simp
                            with_reducible rfl
                           rotate_left
                           ·simp only [Act.put,sA,sB,sC,i64_w,i32_w]
                            rfl
                           refine pure_ (i:=21) (N:=some 52) (v:=?_) (a':=?_) (bm 4194303 25) rfl rfl (any_of HT_.out (by kernel_rfl)) (fun _ _ _ h=>h) (Or.inl ⟨by rfl,?_⟩) ?_ ?_
                           rotate_left
                           ·intro w'
                            go_simp
                            with_reducible rfl
                           rotate_left
                           ·simp only [Act.put,sA,sB,sC,i64_w,i32_w]
                            rfl
                           refine pure_ (i:=22) (N:=some 53) (v:=?_) (a':=?_) (bm 8388607 25) rfl rfl (any_of HT_.out (by kernel_rfl)) (fun _ _ _ h=>h) (Or.inl ⟨by rfl,?_⟩) ?_ ?_
                           rotate_left
                           ·intro w'
                            go_simp
                            with_reducible rfl
                           rotate_left
                           ·simp only [Act.put,sA,sB,sC,i64_w,i32_w]
                            rfl
                           refine pure_ (i:=23) (N:=some 54) (v:=?_) (a':=?_) (bm 16777215 25) rfl rfl (any_of HT_.out (by kernel_rfl)) (fun _ _ _ h=>h) (Or.inl ⟨by rfl,?_⟩) ?_ ?_
                           rotate_left
                           ·intro w'
                            go_simp
                            with_reducible rfl
                           rotate_left
                           ·simp only [Act.put,sA,sB,sC,i64_w,i32_w]
                            rfl
                           refine last_ (i:=24) (N:=none) (bm 33554431 25) rfl rfl (one_of HT_.out (by kernel_rfl)) (by decide) (fun K hK=>?_)
                           refine skip_ (w1:=?_) (by rfl) rfl ?_ ?_
                           rotate_left
                           ·go_simp
                            rfl
                           refine hK.out _ _ ?_
                           clear hK K
                           refine done_ (done_of HT_.out (by kernel_rfl)) ?_
                           try go_wp2
                           have n0_:Aside0 (Kd.S (Kd.slice 3 (Kd.int .i64)) 35 (w68.setCell ⟨go48,(x7_2:Int).toNat,none⟩ (.int .i64 (wrap64 (1 + (ji46))))) w.heap.size (fun _=>True) (.slice (some ⟨go14,0,none⟩) x5_2.length co14) y531):=⟨by exact HQ69.out⟩
                           have n1_:Aside0 (Below w.heap.size w (w68.setCell ⟨go48,(x7_2:Int).toNat,none⟩ (.int .i64 (wrap64 (1 + (ji46)))))):=⟨by repeat ((with_reducible first | exact HB.out | refine below_set ?_ GB48.out))⟩
                           (try clear HO_5)
                           (try clear HB)
                           generalize (w68.setCell ⟨go48,(x7_2:Int).toNat,none⟩ (.int .i64 (wrap64 (1 + (ji46))))) = w71 at n0_ n1_ ⊢
                           have HO_5:=n0_
                           have HB:=n1_
                           clear n0_ n1_
                           have n0_:=Aside0.mk (Kd.S_drew HO_5.out)
                           have n1_:=Aside0.mk (below_drew1 HB.out)
                           clear HO_5
                           clear HB
                           have HO_5:=n0_
                           have HB:=n1_
                           clear n0_ n1_
                           have p532:0 ≤ (x6_1:Int):=of_decide_eq_true (by assumption)
                           have q532:x6_1 < (l0.length:Int):=of_decide_eq_true (by assumption)
                           obtain ⟨ad532,A532_2,c532_2,e532,hx532_0,hx532_1,hx532_2,hl532_2,hi532_2⟩:=at_T26 HR0.out x6_1 p532 q532
                           have hw532_2:=hx532_2
                           have hw532_1:=hx532_1
                           have hw532_0:=hx532_0
                           cases e532
                           replace hx532_0:=(HB.out.cell (World.block_lt_of_cell? w _ hx532_0)).trans hx532_0
                           replace hx532_1:=(HB.out.cell (World.block_lt_of_cell? w _ hx532_1)).trans hx532_1
                           replace hx532_2:=(HB.out.cell (World.block_lt_of_cell? w _ hx532_2)).trans hx532_2
                           have HR532_2:=Aside0.mk hi532_2
                           have HC532_2:=Aside0.mk hl532_2
                           clear hi532_2 hl532_2
                           replace p532:=eq_true p532
                           replace q532:=eq_true q532
                           have p533:0 ≤ (x7_2:Int):=of_decide_eq_true (by assumption)
                           have q533:x7_2 < (l1.length:Int):=of_decide_eq_true (by assumption)
                           obtain ⟨ad533,A533_2,c533_2,e533,hx533_0,hx533_1,hx533_2,hl533_2,hi533_2⟩:=at_T26 HR1.out x7_2 p533 q533
                           have hw533_2:=hx533_2
                           have hw533_1:=hx533_1
                           have hw533_0:=hx533_0
                           cases e533
                           replace hx533_0:=(HB.out.cell (World.block_lt_of_cell? w _ hx533_0)).trans hx533_0
                           replace hx533_1:=(HB.out.cell (World.block_lt_of_cell? w _ hx533_1)).trans hx533_1
                           replace hx533_2:=(HB.out.cell (World.block_lt_of_cell? w _ hx533_2)).trans hx533_2
                           have HR533_2:=Aside0.mk hi533_2
                           have HC533_2:=Aside0.mk hl533_2
                           clear hi533_2 hl533_2
                           replace p533:=eq_true p533
                           replace q533:=eq_true q533
                           refine start_ (n:=9) (S:=fun w'=>w'.cell? (ad532.add ((x6_1).toNat * 3)) = some (.int .i64 ((rd_T26 l0 x6_1).f0)) ∧ w'.cell? ⟨(ad532.add ((x6_1).toNat * 3)).block,(ad532.add ((x6_1).toNat * 3)).off + 1,none⟩ = some (.int .i64 ((rd_T26 l0 x6_1).f1)) ∧ w'.cell? ⟨(ad532.add ((x6_1).toNat * 3)).block,(ad532.add ((x6_1).toNat * 3)).off + 2,none⟩ = some (.slice A532_2 ((rd_T26 l0 x6_1).f2).length c532_2) ∧ w'.cell? (ad533.add ((x7_2).toNat * 3)) = some (.int .i64 ((rd_T26 l1 x7_2).f0)) ∧ w'.cell? ⟨(ad533.add ((x7_2).toNat * 3)).block,(ad533.add ((x7_2).toNat * 3)).off + 1,none⟩ = some (.int .i64 ((rd_T26 l1 x7_2).f1)) ∧ w'.cell? ⟨(ad533.add ((x7_2).toNat * 3)).block,(ad533.add ((x7_2).toNat * 3)).off + 2,none⟩ = some (.slice A533_2 ((rd_T26 l1 x7_2).f2).length c533_2)) (ds:=[]) #[false,false,false,false,false,false,false,false,false] (by kernel_rfl) rfl rfl ⟨((HB.out.cell (World.block_lt_of_cell? w _ hw532_0)).trans hw532_0),((HB.out.cell (World.block_lt_of_cell? w _ hw532_1)).trans hw532_1),((HB.out.cell (World.block_lt_of_cell? w _ hw532_2)).trans hw532_2),((HB.out.cell (World.block_lt_of_cell? w _ hw533_0)).trans hw533_0),((HB.out.cell (World.block_lt_of_cell? w _ hw533_1)).trans hw533_1),((HB.out.cell (World.block_lt_of_cell? w _ hw533_2)).trans hw533_2)⟩ (fun hHeld=>?_);refine with_tabW diff_table.tab10 diff_table.bits10 (fun HT_ HW_=>?_)
                           generalize w71.drew = w72 at HO_5 HB HQ69 HR532_2 HR533_2 hx532_0 hx532_1 hx532_2 hx533_0 hx533_1 hx533_2 hHeld ⊢
                           refine pure_ (i:=0) (N:=some 55) (v:=?_) (a':=?_) (bm 1 9) rfl rfl (any_of HT_.out (by kernel_rfl)) (fun _ _ _ h=>h) (Or.inl ⟨by rfl,?_⟩) ?_ ?_
                           rotate_left
                           ·intro w'
                            go_simp
                            with_reducible rfl
                           rotate_left
                           ·simp only [Act.put,sA,sB,sC,i64_w,i32_w]
                            rfl
                           refine pure_ (i:=1) (N:=some 56) (v:=?_) (a':=?_) (bm 3 9) rfl rfl (any_of HT_.out (by kernel_rfl)) (fun _ _ _ h=>h) (Or.inl ⟨by rfl,?_⟩) ?_ ?_
                           rotate_left
                           ·intro w'
                            go_simp
                            with_reducible rfl
                           rotate_left
                           ·simp only [Act.put,sA,sB,sC,i64_w,i32_w]
                            rfl
                           refine pure_ (i:=2) (N:=some 57) (v:=?_) (a':=?_) (bm 7 9) rfl rfl (any_of HT_.out (by kernel_rfl)) (fun _ _ _ h=>h) (Or.inl ⟨by rfl,?_⟩) ?_ ?_
                           rotate_left
                           ·intro w'
                            go_simp
                            with_reducible rfl
                           rotate_left
                           ·simp only [Act.put,sA,sB,sC,i64_w,i32_w]
                            rfl
                           refine pure_ (i:=4) (N:=some 59) (v:=?_) (a':=?_) (bm 23 9) rfl rfl (any_of HT_.out (by kernel_rfl)) (fun _ _ _ h=>h) (Or.inl ⟨by rfl,?_⟩) ?_ ?_
                           rotate_left
                           ·intro w'
                            go_simp
                            with_reducible rfl
                           rotate_left
                           ·simp only [Act.put,sA,sB,sC,i64_w,i32_w]
                            rfl
                           refine pure_ (i:=5) (N:=some 60) (v:=?_) (a':=?_) (bm 55 9) rfl rfl (any_of HT_.out (by kernel_rfl)) (fun _ _ _ h=>h) (Or.inl ⟨by rfl,?_⟩) ?_ ?_
                           rotate_left
                           ·intro w'
                            go_simp
                            with_reducible rfl
                           rotate_left
                           ·simp only [Act.put,sA,sB,sC,i64_w,i32_w]
                            rfl
                           refine pure_ (i:=6) (N:=some 61) (v:=?_) (a':=?_) (bm 119 9) rfl rfl (any_of HT_.out (by kernel_rfl)) (fun _ _ _ h=>h) (Or.inl ⟨by rfl,?_⟩) ?_ ?_
                           rotate_left
                           ·intro w'
                            go_simp
                            with_reducible rfl
                           rotate_left
                           ·simp only [Act.put,sA,sB,sC,i64_w,i32_w]
                            rfl
                           refine take_ (i:=3) (N:=some 58) (v:=?_) (a':=?_) (bm 127 9) rfl rfl (take_ofW HT_.out HW_.out (by kernel_rfl)) (fun _ _ _ h=>h) (Or.inl ⟨by rfl,?_⟩) hHeld ?_ ?_
                           rotate_left
                           ·rintro w' ⟨s0,s1,s2,s3,s4,s5⟩
                            go_simp
                            with_reducible rfl
                           rotate_left
                           ·simp only [Act.put,sA,sB,sC,i64_w,i32_w]
                            rfl
                           refine take_ (i:=7) (N:=some 62) (v:=?_) (a':=?_) (bm 255 9) rfl rfl (take_ofW HT_.out HW_.out (by kernel_rfl)) (fun _ _ _ h=>h) (Or.inl ⟨by rfl,?_⟩) hHeld ?_ ?_
                           rotate_left
                           ·rintro w' ⟨s0,s1,s2,s3,s4,s5⟩
                            go_simp
                            with_reducible rfl
                           rotate_left
                           ·simp only [Act.put,sA,sB,sC,i64_w,i32_w]
                            rfl
                           refine one_ (i:=8) (N:=some 63) (bm 511 9) rfl rfl (one_of HT_.out (by kernel_rfl)) (by decide) (fun K hK=>?_)
                           refine goes_ Try.func133 (by kernel_rfl) rfl #[.agg #[.int .i64 ((rd_T26 l0 x6_1).f0),.int .i64 ((rd_T26 l0 x6_1).f1),.slice A532_2 ((rd_T26 l0 x6_1).f2).length c532_2],.agg #[.int .i64 ((rd_T26 l1 x7_2).f0),.int .i64 ((rd_T26 l1 x7_2).f1),.slice A533_2 ((rd_T26 l1 x7_2).f2).length c533_2]] (by rfl) rfl rfl (by (try simp only [List.map_toArray,List.map_cons,List.map_nil]);rfl) ?_
                           with_reducible refine (diff_alike.calls ((rd_T26 l0 x6_1).f0) ((rd_T26 l0 x6_1).f1) _ _ ((rd_T26 l0 x6_1).f2) ((rd_T26 l1 x7_2).f0) ((rd_T26 l1 x7_2).f1) _ _ ((rd_T26 l1 x7_2).f2) false _ ?side1 ?side2 ?side3 ?side4 A51.out).mono ?_
                           (case side1=>repeat (exact (Kd.C_below HR532_2.out HB.out)))
                           (case side2=>exact HC532_2.out)
                           (case side3=>repeat (exact (Kd.C_below HR533_2.out HB.out)))
                           (case side4=>exact HC533_2.out)
                           rintro e w73 ⟨rfl,hb⟩
                           refine ⟨_,rfl,?_⟩
                           have n0_:=Aside0.mk (Kd.S_below HO_5.out hb)
                           have n1_:=Aside0.mk (below_step (by with_reducible exact HB.out) hb)
                           clear HO_5
                           clear HB
                           have HO_5:=n0_
                           have HB:=n1_
                           clear n0_ n1_
                           (try clear hb)
                           (try clear hb2)
                           (try clear hk)
                           (try clear hi)
                           refine hK.out _ _ ⟨((HB.out.cell (World.block_lt_of_cell? w _ hw532_0)).trans hw532_0),((HB.out.cell (World.block_lt_of_cell? w _ hw532_1)).trans hw532_1),((HB.out.cell (World.block_lt_of_cell? w _ hw532_2)).trans hw532_2),((HB.out.cell (World.block_lt_of_cell? w _ hw533_0)).trans hw533_0),((HB.out.cell (World.block_lt_of_cell? w _ hw533_1)).trans hw533_1),((HB.out.cell (World.block_lt_of_cell? w _ hw533_2)).trans hw533_2)⟩ (fun hHeld=>?_)
                           clear hK K
                           refine norm_ (a':=?_) ?_ ?_
                           rotate_left
                           ·show Act.put _ (some 63) _ = _
                            simp only [Act.put,sA,sB,sC,i64_w,i32_w]
                            rfl
                           refine done_ (done_of HT_.out (by kernel_rfl)) ?_
                           try go_wp2
                           (try simp only [← hl5_2])
                           go_roundg k2
                           case measure=>have:=HK1.out;have:=HK2.out;omega
                           case rel=>exact ⟨(y531),(wrap64 (x7_2 - 1)),(by rfl),H',⟨by have:=HK1.out;have:=HK2.out;omega⟩,⟨by (try simp only [hl5_2]);exact HO_5.out⟩,⟨HB.out⟩⟩
                         ·rw [if_neg c50] at H
                          exact absurd H (by simp)
                        ·rw [if_neg c49] at H
                         exact absurd H (by simp)
                       ·rw [if_neg c47] at H
                        exact absurd H (by simp)
                      ·rw [if_neg c45] at H
                       exact absurd H (by simp)
                     ·rw [if_neg c44] at H
                      exact absurd H (by simp)
                    ·rw [if_neg c42] at H
                     exact absurd H (by simp)
                   ·rw [if_neg c41] at H
                    exact absurd H (by simp)
                  ·rw [if_neg c40] at H
                   exact absurd H (by simp)
                 ·rw [if_neg c39] at H
                  exact absurd H (by simp)
                ·rw [if_neg c37] at H
                 exact absurd H (by simp)
               ·rw [if_neg c36] at H
                exact absurd H (by simp)
            ·rw [if_neg c19] at H
             have c19b0:decide (0 ≤ x7_2) = false:=decide_eq_false c19
             clear c19
             have H':=Aside0.mk H
             clear H
             go_wp2
             (try simp only [← hl5_2])
             go_roundg k2
             case measure=>have:=HK1.out;have:=HK2.out;omega
             case rel=>exact ⟨(x5_2),(wrap64 (x6_1 - 1)),(by rfl),H',⟨by have:=HK1.out;have:=HK2.out;omega⟩,⟨by (try simp only [hl5_2]);exact HO_5.out⟩,⟨HB.out⟩⟩
         ·rw [if_neg c13] at H
          exact absurd H (by simp)
        ·rw [if_neg c12] at H
         exact absurd H (by simp)
       ·rw [if_neg c11] at H
        exact absurd H (by simp)
      ·rw [if_neg c10] at H
       exact absurd H (by simp)
     ·rw [if_neg c8] at H
      have c8b0:decide (0 ≤ x6_1) = false:=decide_eq_false c8
      clear c8
      obtain rfl:=Option.some.inj H
      go_wp2
      go_ret
      exact ⟨_,by rfl,by exact HO_5.out,HB.out⟩
  ·rw [if_neg c5] at H
   exact absurd H (by simp)
 ·rw [if_neg c4] at H
  exact absurd H (by simp)
end Go.Proofs.Ytlcodfjlbhjkbaa.PDelta
end
section
namespace Go.Proofs.Ytlcodfjlbhjkbaa.PDelta
open Go.RowKit Go.Proofs.YtlcodfjlbhjkbaaW.PrintWords Go.Proofs.YtlcodfjlbhjkbaaW.PrintLast Go.Proofs.YtlcodfjlbhjkbaaW.PrintMore
theorem rdL_set (t:List (List Int)) (i i':Nat) (row:List Int) (hi:i < t.length):rd_L10 (t.set i row) (i':Int) = if i' = i then row else rd_L10 t (i':Int):=by
 unfold rd_L10
 rw [Int.toNat_natCast,List.getD_eq_getElem?_getD,List.getD_eq_getElem?_getD,List.getElem?_set]
 by_cases h:i = i'
 ·subst h;simp [hi]
 ·rw [if_neg h,if_neg (fun e=>h e.symm)]
theorem rd_set (xs:List Int) (j j':Nat) (v:Int) (hj:j < xs.length):rd (xs.set j v) (j':Int) = if j' = j then v else rd xs (j':Int):=by
 unfold rd
 rw [Int.toNat_natCast,List.getD_eq_getElem?_getD,List.getD_eq_getElem?_getD,List.getElem?_set]
 by_cases h:j = j'
 ·subst h;simp [hj]
 ·rw [if_neg h,if_neg (fun e=>h e.symm)]
def Cell (a b:List S26) (row:List Int) (i j:Nat):Prop:=rd row (j:Int) = (tc (a.drop i) (b.drop j):Int)
structure TR (a b:List S26) (t:List (List Int)) (n:Nat):Prop where
 len:t.length = a.length + 1
 row:∀ i,n ≤ i → i ≤ a.length → (rd_L10 t (i:Int)).length = b.length + 1 ∧ ∀ j,j ≤ b.length → Cell a b (rd_L10 t (i:Int)) i j
structure TI (a b:List S26) (t:List (List Int)) (i m:Nat):Prop where
 above:TR a b t (i + 1)
 le:i ≤ a.length
 wide:(rd_L10 t (i:Int)).length = b.length + 1
 cells:∀ j,m ≤ j → j ≤ b.length → Cell a b (rd_L10 t (i:Int)) i j
theorem TI.any {a b:List S26} {t:List (List Int)} {i j:Nat} (h:TI a b t i (j + 1)) (hj:j ≤ b.length) (v:Int):TI a b (t.set i ((rd_L10 t (i:Int)).set j v)) i (j + 1):=by
 have hit:i < t.length:=by rw [h.above.len];have:=h.le;omega
 refine ⟨⟨by rw [List.length_set];exact h.above.len,fun i' h1 h2=>?_⟩,h.le,?_,fun j' h1 h2=>?_⟩
 ·rw [rdL_set _ _ _ _ hit,if_neg (by omega)];exact h.above.row i' h1 h2
 ·rw [rdL_set _ _ _ _ hit,if_pos rfl,List.length_set];exact h.wide
 ·rw [rdL_set _ _ _ _ hit,if_pos rfl]
  unfold Cell
  rw [rd_set _ _ _ _ (by rw [h.wide];omega),if_neg (by omega)]
  exact h.cells j' h1 h2
theorem TI.put {a b:List S26} {t:List (List Int)} {i j:Nat} (h:TI a b t i (j + 1)) (hj:j ≤ b.length) {v:Int} (hv:v = (tc (a.drop i) (b.drop j):Int)):TI a b (t.set i ((rd_L10 t (i:Int)).set j v)) i j:=by
 have hit:i < t.length:=by rw [h.above.len];have:=h.le;omega
 have h':=h.any hj v
 refine ⟨h'.above,h'.le,h'.wide,fun j' h1 h2=>?_⟩
 by_cases e:j' = j
 ·subst e
  rw [rdL_set _ _ _ _ hit,if_pos rfl]
  unfold Cell
  rw [rd_set _ _ _ _ (by rw [h.wide];omega),if_pos rfl,hv]
 ·exact h'.cells j' (by omega) h2
theorem mn_nat (x y:Nat):mn (x:Int) (y:Int) = ((min x y:Nat):Int):=by unfold mn;split <;> omega
theorem price_ev (x y:S26) (hs:x.f2.length ≤ 1099511627776):Ev (fun k=>diff_price.f k x.f0 x.f1 x.f2 y.f0 y.f1 y.f2) (prc x y:Int):=by
 obtain ⟨r,er,hr⟩:=asame_ev x.f2 y.f2 hs
 refine Ev.bind er ?_
 unfold prc
 by_cases h:x.f2 = y.f2
 ·rw [hr.2 h,if_pos h];exact Ev.congr (fun k=>by rw [if_pos rfl];rfl) (Ev.now _)
 ·rw [if_neg h];exact Ev.congr (fun k=>by rw [if_neg (fun e=>h (hr.1 e))];rfl) (Ev.now _)
theorem alike_is (x y:S26):diff_alike.f x.f0 x.f1 x.f2 y.f0 y.f1 y.f2 = some (decide (Alk x y)):=by
 unfold diff_alike.f
 by_cases h:x.f0 = y.f0
 ·rw [if_pos h]
  by_cases h2:x.f1 = y.f1
  ·rw [decide_eq_true (show Alk x y from ⟨h,h2⟩),beq_iff_eq.mpr h2]
  ·rw [decide_eq_false (fun e:Alk x y=>h2 e.2),beq_eq_false_iff_ne.mpr h2]
 ·rw [if_neg h,decide_eq_false (fun e:Alk x y=>h e.1)]
end Go.Proofs.Ytlcodfjlbhjkbaa.PDelta
end

/- Parts of the proof of Track: nothing is claimed here by itself. -/
import Derived.Test.YtlcodfjlbhjkbaaKTrack4
set_option linter.unusedVariables false
set_option linter.unusedSimpArgs false
section
namespace Go.Proofs.Ytlcodfjlbhjkbaa.PDelta
open Go.RowKit Go.Proofs.YtlcodfjlbhjkbaaW.PrintWords Go.Proofs.YtlcodfjlbhjkbaaW.PrintLast Go.Proofs.YtlcodfjlbhjkbaaW.PrintMore
structure AcB (d : List S95) (As : List (List S26)) (Cs : List Bool) (Ts : List (List S91)) (n : Nat) : Prop where
 a : As.length + n + wtL d ≤ 1073741825
 c : Cs.length + 1 = As.length
 t : Ts.length + 1 = As.length
 e : ∀ a ∈ As,a.length + n + wtL d ≤ 1073741824
set_option maxRecDepth 100000 in
set_option maxHeartbeats 16000000 in
theorem act_calls (A0 : Option Addr) (c0 : Nat) (l0 : List (S95)) (w : World) (hr0 : Kd.C k95 w A0 l0.length l0) (hc0 : l0.length ≤ c0) (hl : wtL l0 ≤ 1073741824) (hll : l0.length ≤ 1073741824) :
 Calls Try.prog 64 #[.slice A0 l0.length c0] w fun e w' => ∃ (A1 A2 A3 : Option Addr) (c1 c2 c3 : Nat),e = .returned (.agg #[.slice A1 (actA l0).1.length c1,.slice A2 (actA l0).2.1.length c2,.slice A3 (actA l0).2.2.length c3]) ∧
  Kd.V (Kd.slice 26 k26) 22 w' w.heap.size (fun _ => True) (.slice A1 (actA l0).1.length c1) (actA l0).1 ∧ (Kd.C Kd.bool w' A2 (actA l0).2.1.length (actA l0).2.1 ∧ (actA l0).2.1.length ≤ c2) ∧ (Kd.C (Kd.slice 91 k91) w' A3 (actA l0).2.2.length (actA l0).2.2 ∧ (actA l0).2.2.length ≤ c3) ∧ Below w.heap.size w w':=by
 have hu95:=Try.underlying95
 have hu103:=Try.underlying103
 have HR0:=Aside0.mk hr0
 have HC0:=Aside0.mk hc0
 have HLEN:=Aside0.mk hll
 have HB0:=Aside0.mk (show AcB (l0.drop 0) [[]] [] [] 0 from ⟨by simp only [List.length_singleton,List.drop_zero];omega,rfl,rfl,fun a ha => by rw [List.mem_singleton.1 ha];simp only [List.length_nil,List.drop_zero];omega⟩)
 clear hr0 hc0 hl hll
 go_enter Try.func64,Try.ntmps64
 go_wp2
 have HJ0 : Aside0 (AcS w (w.heap.size + 1 + 1) [[]] [] [] (.slice (some ⟨w.heap.size + 1,0,none⟩) 1 1) (.slice none 0 0) (.slice none 0 0) (.slice (some ⟨w.heap.size + 1,0,none⟩) 1 1) (.slice none 0 0) (.slice none 0 0) (((w.alloc (Obj.cells #[Value.slice none 0 0,Value.slice none 0 0,Value.slice none 0 0] 103)).alloc (Obj.cells #[Value.slice none 0 0] 22)).alloc (Obj.cells #[Value.slice (some ⟨w.heap.size + 1,0,none⟩) 1 1,Value.slice none 0 0,Value.slice none 0 0] 103))):=by
  refine ⟨by omega,blk_alloc (blk_alloc (blk_new w _) _) _,?_,?_,Kd.R_nil _ _ _ _ _,Kd.N_nil _ _ _ _ _,below_alloc (below_alloc (below_alloc (Below.refl _ _) _) _) _⟩
  ·have:=blk_new ((w.alloc (Obj.cells #[Value.slice none 0 0,Value.slice none 0 0,Value.slice none 0 0] 103)).alloc (Obj.cells #[Value.slice none 0 0] 22)) (Obj.cells #[Value.slice (some ⟨w.heap.size + 1,0,none⟩) 1 1,Value.slice none 0 0,Value.slice none 0 0] 103)
   rw [World.size_alloc,World.size_alloc] at this
   exact this
  ·have hR : Kd.R (Kd.slice 26 k26) 22 ((w.alloc (Obj.cells #[Value.slice none 0 0,Value.slice none 0 0,Value.slice none 0 0] 103)).alloc (Obj.cells #[Value.slice none 0 0] 22)) w.heap.size (fun k => k = w.heap.size + 1) (.slice (some ⟨w.heap.size + 1,0,none⟩) 1 1) [[]]:=by
    refine ⟨fun k hk => by simpa [Value.ownBlock] using hk.symm,?_⟩
    have h2:=OwnRow.lit (R:=(Kd.slice 26 k26).M ((w.alloc (Obj.cells #[Value.slice none 0 0,Value.slice none 0 0,Value.slice none 0 0] 103)).alloc (Obj.cells #[Value.slice none 0 0] 22)) w.heap.size (fun k => k = w.heap.size + 1 ∧ some k ≠ (Value.slice (some ⟨w.heap.size + 1,0,none⟩) 1 1).ownBlock)) (e:=22) (size:=1) (ps:=[[]]) (w.alloc (Obj.cells #[Value.slice none 0 0,Value.slice none 0 0,Value.slice none 0 0] 103)) w.heap.size (inner:=[.slice none 0 0]) (Reps.one (p:=[]) ⟨_,rfl,Kd.R_nil _ _ _ _ _⟩ (Reps.none _ _)) (by rw [World.size_alloc];omega) (by simp)
    rw [World.size_alloc] at h2
    exact h2
   exact Kd.N_mono (Kd.N_alloc (Kd.R_N hR) _) (fun k hk => by subst hk;exact ⟨⟨⟨by omega,by omega⟩,by simp [Value.ownBlock]⟩,by simp [Value.ownBlock]⟩)
 obtain ⟨g,hg⟩ : ∃ g,g = w.heap.size + 1 + 1:=⟨_,rfl⟩
 rw [← hg] at HJ0
 rw [← hg]
 clear hg
 go_loopg [11] l0.length (fun m v11 wr => ∃ (i : Nat) (As : List (List S26)) (Cs : List Bool) (Ts : List (List S91)) (vA vB vC : Value),v11 = .int .i64 (i : Int) ∧ Aside0 (m + i = l0.length) ∧ Aside0 (AcS w g As Cs Ts vA vB vC vA vB vC wr) ∧ Aside0 (AcB (l0.drop i) As Cs Ts 0) ∧ Aside0 (actL (l0.drop i) (As,Cs,Ts) = actA l0))
 case atStart => exact ⟨0,[[]],[],[],_,_,_,rfl,⟨rfl⟩,HJ0,HB0,⟨rfl⟩⟩
 case round =>
  clear HJ0 HB0
  obtain ⟨i,As,Cs,Ts,vA,vB,vC,rfl,HI,HS,HB,HL⟩:=hrel
  by_cases d2 : i < l0.length
  rotate_left
  ·have g1 : decide ((i : Int) < (l0.length : Int)) = false:=decide_eq_false (by omega)
   have g1' : decide (i < l0.length) = false:=decide_eq_false d2
   have hL:=HL.out
   rw [List.drop_eq_nil_of_le (by omega),actL] at hL
   have HD:=Aside0.mk hL
   clear d2 HL hL
   obtain ⟨A5,n5,e5⟩:=Kd.N_slice HS.out.rA
   subst e5
   obtain ⟨A6,n6,e6⟩:=Kd.R_slice HS.out.rB
   subst e6
   obtain ⟨A7,n7,e7⟩:=Kd.N_slice HS.out.rC
   subst e7
   have q0 : wr.cell? ⟨g,0,none⟩ = some (.slice A5 As.length n5):=(blk_cell HS.out.bk 0).trans rfl
   have q1 : wr.cell? ⟨g,1,none⟩ = some (.slice A6 Cs.length n6):=(blk_cell HS.out.bk 1).trans rfl
   have q2 : wr.cell? ⟨g,2,none⟩ = some (.slice A7 Ts.length n7):=(blk_cell HS.out.bk 2).trans rfl
   have r0 : wr.cell? ⟨w.heap.size,0,none⟩ = some (.slice none 0 0):=(blk_cell HS.out.res 0).trans rfl
   have r1 : wr.cell? ⟨w.heap.size,1,none⟩ = some (.slice none 0 0):=(blk_cell HS.out.res 1).trans rfl
   have r2 : wr.cell? ⟨w.heap.size,2,none⟩ = some (.slice none 0 0):=(blk_cell HS.out.res 2).trans rfl
   have s0:=blk_frozen HS.out.res 0
   have s1:=blk_frozen HS.out.res 1
   have s2:=blk_frozen HS.out.res 2
   go_wp2
   obtain ⟨HF,hA,hB,hC,hBel⟩:=HS.out.last
   (try simp only [Exit.inBlock,Exit.then])
   refine bodyPost_ret (results_cell_row rfl _ _ w.heap.size 103 _ (0,0) _ rfl HF Try.underlying103 rfl (by kernel_rfl)) rfl ?_
   rw [← HD.out]
   have rA:=Kd.N_reads' hA
   have rB:=Kd.R_reads' hB
   have rC:=Kd.N_reads' hC
   exact ⟨A5,A6,A7,n5,n6,n7,rfl,Kd.N_V hA,⟨rB.2.2,rB.2.1⟩,⟨rC.2.2,rC.2.1⟩,hBel⟩
  obtain ⟨gl,rfl⟩ : ∃ gl,gk = gl + 1:=⟨gk - 1,by have:=HI.out;omega⟩
  have hL:=HL.out
  rw [drop_T95 l0 i d2,actL] at hL
  have hBd:=HB.out
  rw [drop_T95 l0 i d2] at hBd
  have g1 : decide ((i : Int) < (l0.length : Int)) = true:=decide_eq_true (by omega)
  have g1' : decide (i < l0.length) = true:=decide_eq_true d2
  have q1 : (i : Int) < (l0.length : Int):=by omega
  have HWB : Aside0 (Below w.heap.size w wr):=⟨HS.out.bel⟩
  obtain ⟨ad0,A2,c2,A3,c3,e0,hx0,hx1,hx2,hx3,hl2,hg2,hl3,hg3⟩:=at_T95 HR0.out (i : Int) (by omega) q1
  cases e0
  replace hx0:=(HWB.out.cell (World.block_lt_of_cell? w _ hx0)).trans hx0
  replace hx1:=(HWB.out.cell (World.block_lt_of_cell? w _ hx1)).trans hx1
  replace hx2:=(HWB.out.cell (World.block_lt_of_cell? w _ hx2)).trans hx2
  replace hx3:=(HWB.out.cell (World.block_lt_of_cell? w _ hx3)).trans hx3
  simp only [Int.toNat_natCast] at hx0 hx1 hx2 hx3
  have wk : wrap64 ((i : Int) + 1) = (i : Int) + 1:=by have:=HLEN.out;unfold wrap64;omega
  obtain ⟨x,hx⟩ : ∃ x,x = rd_T95 l0 (i : Int):=⟨_,rfl⟩
  rw [← hx] at hx0 hx1 hx2 hx3 hl2 hg2 hl3 hg3 hL hBd
  clear hx d2 HL HB
  have HL:=Aside0.mk hL
  have HB:=Aside0.mk hBd
  have HL2:=Aside0.mk hl2
  have HL3:=Aside0.mk hl3
  have HG2:=Aside0.mk hg2
  have HG3:=Aside0.mk hg3
  clear hL hBd hl2 hl3 hg2 hg3
  have HT0 : Aside0 (AcT w g As Cs Ts vA vB vC vA vB vC wr.heap.size x A2 c2 A3 c3 (wr.alloc (Obj.cells #[.int .i64 x.f0,.int .i64 x.f1,.slice A2 x.f2.length c2,.slice A3 x.f3.length c3] 95 (0,0)))) :=
   ⟨HS.out.made _,blk_new wr _⟩
  clear HS HWB
  by_cases ca : x.f0 = 1
  ·have c1 : (x.f0 == 1) = true:=beq_iff_eq.mpr ca
   have HCA:=Aside0.mk ca
   clear ca
   have hpos : 0 < As.length:=by have:=HB.out.c;omega
   have HPOS:=Aside0.mk hpos
   obtain ⟨ba,ca,eA,hba,hba2,cells,hblk⟩:=Kd.N_form HT0.out.st.rA hpos
   subst eA
   have HBA:=Aside0.mk hba
   have HBA2:=Aside0.mk hba2
   obtain ⟨al,hal⟩ : ∃ a,a = As.getD (As.length - 1) []:=⟨_,rfl⟩
   have HAL:=Aside0.mk hal
   obtain ⟨ce,hcl,hFK,hcc⟩:=Kd.N_get HT0.out.st.rA [] ((As.length - 1 : Nat) : Int) (by omega) (by omega)
   simp only [Int.toNat_natCast] at hFK hcc
   rw [← hal] at hFK
   obtain ⟨A5,c5,hce,hc5,hFA⟩:=fk_open hFK
   subst hce
   have HAE:=Aside0.mk (show al.length ≤ 1073741824 ∧ x.f3.length ≤ 1073741824 ∧ al.length + x.f3.length ≤ 1073741824 by
    have hm : al ∈ As:=by
     rw [hal,List.getD_eq_getElem?_getD,List.getElem?_eq_getElem (show As.length - 1 < As.length by omega),Option.getD_some]
     exact List.getElem_mem _
    have h1:=HB.out.e al hm
    rw [wtL,wtS] at h1
    omega)
   clear hal
   have HC5:=Aside0.mk hc5
   have HFA:=Aside0.mk hFA
   have HCC:=Aside0.mk hcc
   have HCL:=Aside0.mk hcl
   obtain ⟨gs,hgs⟩ : ∃ k,k = wr.heap.size:=⟨_,rfl⟩
   obtain ⟨w2,hw2⟩ : ∃ W,W = wr.alloc (Obj.cells #[.int .i64 x.f0,.int .i64 x.f1,.slice A2 x.f2.length c2,.slice A3 x.f3.length c3] 95 (0,0)):=⟨_,rfl⟩
   go_upto_region 7 with (fail)
   clear hx0 hx1 hx2 hx3
   rw [← hw2]
   rw [← hgs,← hw2] at HT0
   rw [← hw2] at hblk
   rw [← hw2] at HBA2 HCC HFA
   rw [← hgs]
   have HGS:=Aside0.mk hgs
   have HW2:=Aside0.mk hw2
   clear hgs hw2
   have HKW:=Aside0.mk (show wrap64 ((As.length : Int) - 1) = ((As.length - 1 : Nat) : Int) by
    have h1:=HB.out.a
    have h2:=HPOS.out
    unfold wrap64
    omega)
   have wk7:=HKW.out
   have wk7' : IntKind.i64.wrap ((As.length : Int) - 1) = ((As.length - 1 : Nat) : Int):=by rw [i64_w];exact HKW.out
   have hA0 : w2.cell? ⟨g,0,none⟩ = some (.slice (some ⟨ba,0,none⟩) As.length ca):=(blk_cell HT0.out.st.bk 0).trans rfl
   go_upto_region 8 with (fail)
   clear wk7 wk7' hA0
   have HEL:=Aside0.mk (show w2.drew.cell? ⟨ba,As.length - 1,none⟩ = some (.slice A5 al.length c5) by
    have:=HCC.out 0 _ rfl
    simpa [add_plain,show (Kd.slice 26 k26).sz = 1 from rfl] using this)
   have HT:=Aside0.mk HT0.out.drew
   have HB8:=Aside0.mk (Below.refl w2.drew.heap.size w2.drew)
   have HFA8:=Aside0.mk (Kd.F_drew (Kd.F_bound HFA.out))
   have HBLK:=Aside0.mk (blk_drew hblk)
   have HNW:=Aside0.mk (show ∀ k,w2.drew.heap.size ≤ k → okN w g ba vB vC k from fun k hk => ⟨HT.out.st.freshA k hk,fun e => by have h1:=HBA2.out;have h2 : w2.heap.size ≤ k:=hk;omega⟩)
   have HOLD:=Aside0.mk (show ∀ k,k < w.heap.size → (k ≠ g ∧ k ≠ w.heap.size) ∧ some k ≠ vB.ownBlock ∧ some k ≠ vC.ownBlock ∧ k ≠ ba from fun k hk => by
    have h1:=HT.out.st.old k hk
    exact ⟨h1.1.1.1,h1.1.2,h1.2,fun e => h1.1.1.2 (by rw [own_ba,e])⟩)
   clear hblk
   have p8 : (0 : Int) ≤ ((As.length - 1 : Nat) : Int):=by omega
   have q8 : ((As.length - 1 : Nat) : Int) < (As.length : Int):=by omega
   go_upto_region 8 with (fail)
   refine start_ (n:=15) (S:=fun w' => w'.cell? ⟨g,0,none⟩ = some (.slice (some ⟨ba,0,none⟩) As.length ca) ∧ w'.cell? ⟨ba,As.length - 1,none⟩ = some (.slice A5 al.length c5) ∧ w'.cell? ⟨gs,3,none⟩ = some (.slice A3 x.f3.length c3)) (ds:=[14]) #[false,false,false,false,false,false,false,false,false,false,false,false,false,false,false] (by kernel_rfl) rfl rfl ⟨((blk_cell (HT.out.below HB8.out).st.bk 0).trans rfl),(pw_cell_below HB8.out HEL.out),((blk_cell (HT.out.below HB8.out).bx 3).trans rfl)⟩ (fun hHeld => ?_)
   refine pure_ (i:=0) (N:=some 25) (v:=?_) (a':=?_) (bm 1 15) rfl rfl (by kernel_rfl) (fun _ _ _ h => h) (Or.inl ⟨by rfl,?_⟩) ?_ ?_
   rotate_left
   ·intro w'
    go_simp
    with_reducible rfl
   rotate_left
   ·simp only [Act.put,sA,sB,sC,i64_w,i32_w]
    rfl
   refine pure_ (i:=2) (N:=some 27) (v:=?_) (a':=?_) (bm 5 15) rfl rfl (by kernel_rfl) (fun _ _ _ h => h) (Or.inl ⟨by rfl,?_⟩) ?_ ?_
   rotate_left
   ·intro w'
    go_simp
    with_reducible rfl
   rotate_left
   ·simp only [Act.put,sA,sB,sC,i64_w,i32_w]
    rfl
   refine pure_ (i:=4) (N:=some 29) (v:=?_) (a':=?_) (bm 21 15) rfl rfl (by kernel_rfl) (fun _ _ _ h => h) (Or.inl ⟨by rfl,?_⟩) ?_ ?_
   rotate_left
   ·intro w'
    go_simp
    with_reducible rfl
   rotate_left
   ·simp only [Act.put,sA,sB,sC,i64_w,i32_w]
    rfl
   refine pure_ (i:=6) (N:=some 31) (v:=?_) (a':=?_) (bm 85 15) rfl rfl (by kernel_rfl) (fun _ _ _ h => h) (Or.inl ⟨by rfl,?_⟩) ?_ ?_
   rotate_left
   ·intro w'
    go_simp
    with_reducible rfl
   rotate_left
   ·simp only [Act.put,sA,sB,sC,i64_w,i32_w]
    rfl
   refine pure_ (i:=10) (N:=some 35) (v:=?_) (a':=?_) (bm 1109 15) rfl rfl (by kernel_rfl) (fun _ _ _ h => h) (Or.inl ⟨by rfl,?_⟩) ?_ ?_
   rotate_left
   ·intro w'
    go_simp
    with_reducible rfl
   rotate_left
   ·simp only [Act.put,sA,sB,sC,i64_w,i32_w]
    rfl
   refine take_ (i:=1) (N:=some 26) (v:=?_) (a':=?_) (bm 1111 15) rfl rfl (by kernel_rfl) (fun _ _ _ h => h) (Or.inl ⟨by rfl,?_⟩) hHeld ?_ ?_
   rotate_left
   ·rintro w' ⟨s0,s1,s2⟩
    go_simp
    with_reducible rfl
   rotate_left
   ·simp only [Act.put,sA,sB,sC,i64_w,i32_w]
    rfl
   refine take_ (i:=5) (N:=some 30) (v:=?_) (a':=?_) (bm 1143 15) rfl rfl (by kernel_rfl) (fun _ _ _ h => h) (Or.inl ⟨by rfl,?_⟩) hHeld ?_ ?_
   rotate_left
   ·rintro w' ⟨s0,s1,s2⟩
    go_simp
    with_reducible rfl
   rotate_left
   ·simp only [Act.put,sA,sB,sC,i64_w,i32_w]
    rfl
   refine pure_ (i:=7) (N:=some 32) (v:=?_) (a':=?_) (bm 1271 15) rfl rfl (by kernel_rfl) (fun _ _ _ h => h) (Or.inl ⟨by rfl,?_⟩) ?_ ?_
   rotate_left
   ·intro w'
    go_simp
    with_reducible rfl
   rotate_left
   ·simp only [Act.put,sA,sB,sC,i64_w,i32_w]
    rfl
   refine take_ (i:=8) (N:=some 33) (v:=?_) (a':=?_) (bm 1527 15) rfl rfl (by kernel_rfl) (fun _ _ _ h => h) (Or.inl ⟨by rfl,?_⟩) hHeld ?_ ?_
   rotate_left
   ·rintro w' ⟨s0,s1,s2⟩
    go_simp
    with_reducible rfl
   rotate_left
   ·simp only [Act.put,sA,sB,sC,i64_w,i32_w]
    rfl
   refine take_ (i:=11) (N:=some 36) (v:=?_) (a':=?_) (bm 3575 15) rfl rfl (by kernel_rfl) (fun _ _ _ h => h) (Or.inl ⟨by rfl,?_⟩) hHeld ?_ ?_
   rotate_left
   ·rintro w' ⟨s0,s1,s2⟩
    go_simp
    with_reducible rfl
   rotate_left
   ·simp only [Act.put,sA,sB,sC,i64_w,i32_w]
    rfl
   refine one_ (i:=3) (N:=some 28) (bm 3583 15) rfl rfl (by kernel_rfl) (by decide) (fun K hK => ?_)
   refine Kd.N_lit_step k26 (w0:=w2.drew) w2.drew.heap.size 26 (by rfl) (N':=28) rfl (xs:=([] : List S26)) (inner:=[]) (ok:=okN w g ba vB vC) (okp:=fun _ => False) ?hr ?hp (fun _ hk => hk.elim) (HNW.out _ (Nat.le_refl _)) HB8.out HB8.out.size (by simp) ?_
   case hr => (go_simp;done)
   case hp => exact Reps.none _ _
   intro v3_ w3_ hN hB hg hn
   have HU:=Aside0.mk hN
   have HB8:=Aside0.mk hB
   clear hN hB hg hn
   refine hK.out _ _ ⟨((blk_cell (HT.out.below HB8.out).st.bk 0).trans rfl),(pw_cell_below HB8.out HEL.out),((blk_cell (HT.out.below HB8.out).bx 3).trans rfl)⟩ (fun hHeld => ?_)
   clear hK K
   refine norm_ (a':=?_) ?_ ?_
   rotate_left
   ·show Act.put _ (some 28) _ = _
    simp only [Act.put,sA,sB,sC,i64_w,i32_w]
    rfl
   refine one_ (i:=9) (N:=some 34) (bm 4095 15) rfl rfl (by kernel_rfl) (by decide) (fun K hK => ?_)
   refine Kd.N_append_rows_step k26 (w0:=w2.drew) w2.drew.heap.size (by rfl) (.tmp 28) (.tmp 33) 22 26 (.agg #[.int .i64 0,.int .i64 0,.slice none 0 0]) 40 rfl Try.underlying22 info26 rfl (by decide) (by decide) (v3_) [] al A5 al.length c5 (okN w g ba vB vC) (fun k => ((((k ≠ g ∧ k ≠ w.heap.size) ∧ some k ≠ vB.ownBlock) ∧ some k ≠ vC.ownBlock) ∧ some k ≠ (Value.slice (some ⟨ba,0,none⟩) As.length ca).ownBlock) ∧ k < w2.heap.size) (by rfl) (by rfl) HU.out (Kd.F_step HFA8.out (fun k hk _ => HB8.out.block k hk.2)) (fun k hk => ⟨⟨hk.1.1,fun e => hk.1.2 (by rw [own_ba,e])⟩,fun e => by have h1:=Kd.N_base HU.out k e.symm;have h2 : k < w2.heap.size:=hk.2;exact Nat.lt_irrefl _ (Nat.lt_of_lt_of_le h2 h1)⟩) (fun k hk => HNW.out k (Nat.le_trans HB8.out.size hk)) HB8.out HB8.out.size (by have:=HAE.out;(simp only [List.length_nil];omega)) ?_
   intro v9_ w9_ hN hB hg hat
   have HU:=Aside0.mk hN
   have HB8:=Aside0.mk hB
   clear hN hB hg hat
   refine hK.out _ _ ⟨((blk_cell (HT.out.below HB8.out).st.bk 0).trans rfl),(pw_cell_below HB8.out HEL.out),((blk_cell (HT.out.below HB8.out).bx 3).trans rfl)⟩ (fun hHeld => ?_)
   clear hK K
   refine norm_ (a':=?_) ?_ ?_
   rotate_left
   ·show Act.put _ (some 34) _ = _
    simp only [Act.put,sA,sB,sC,i64_w,i32_w]
    rfl
   refine one_ (i:=12) (N:=some 37) (bm 8191 15) rfl rfl (by kernel_rfl) (by decide) (fun K hK => ?_)
   have HU2:=Aside0.mk (show Kd.N k26 26 _ w2.drew.heap.size (okN w g ba vB vC) v9_ al from by have:=HU.out;rw [List.nil_append] at this;exact this)
   refine Kd.N_append_rows_step k26 (w0:=w2.drew) w2.drew.heap.size (by rfl) (.tmp 34) (.tmp 36) 22 26 (.agg #[.int .i64 0,.int .i64 0,.slice none 0 0]) 40 rfl Try.underlying22 info26 rfl (by decide) (by decide) (v9_) al x.f3 A3 x.f3.length c3 (okN w g ba vB vC) (fun k => k < w.heap.size) (by rfl) (by rfl) HU2.out (Kd.F_step (Kd.C_F k26_heap HG3.out) (fun k hk _ => (HT.out.below HB8.out).st.bel.block k hk)) (fun k hk => ⟨⟨⟨⟨(HOLD.out k hk).1,(HOLD.out k hk).2.1⟩,(HOLD.out k hk).2.2.1⟩,(HOLD.out k hk).2.2.2⟩,fun e => by have h1:=Kd.N_base HU.out k e.symm;have h2:=HT.out.st.bel.size;omega⟩) (fun k hk => HNW.out k (Nat.le_trans HB8.out.size hk)) HB8.out HB8.out.size (by have:=HAE.out;omega) ?_
   intro v12_ w12_ hN hB hg hat
   have HU:=Aside0.mk hN
   have HB8:=Aside0.mk hB
   clear hN hB hg hat
   obtain ⟨A12,n12,e12⟩:=Kd.N_slice HU.out
   subst e12
   have HTF:=Aside0.mk (HT.out.below HB8.out)
   have hd8 : w12_.cell? ⟨ba,As.length - 1,none⟩ = some _:=pw_cell_below HB8.out HEL.out
   have hf8:=blk_frozen (blk_below HBLK.out HB8.out) (As.length - 1)
   refine hK.out _ _ ⟨((blk_cell (HT.out.below HB8.out).st.bk 0).trans rfl),(pw_cell_below HB8.out HEL.out),((blk_cell (HT.out.below HB8.out).bx 3).trans rfl)⟩ (fun hHeld => ?_)
   clear hK K
   refine norm_ (a':=?_) ?_ ?_
   rotate_left
   ·show Act.put _ (some 37) _ = _
    simp only [Act.put,sA,sB,sC,i64_w,i32_w]
    rfl
   refine pure_ (i:=13) (N:=some 38) (v:=?_) (a':=?_) (bm 16383 15) rfl rfl (by kernel_rfl) (fun _ _ _ h => h) (Or.inl ⟨by rfl,?_⟩) ?_ ?_
   rotate_left
   ·intro w'
    go_simp
    with_reducible rfl
   rotate_left
   ·simp only [Act.put,sA,sB,sC,i64_w,i32_w]
    rfl
   refine last_ (i:=14) (N:=none) (bm 32767 15) rfl rfl (by kernel_rfl) (by decide) (fun K hK => ?_)
   refine skip_ (w1:=?_) (by rfl) rfl ?_ ?_
   rotate_left
   ·go_simp
    rfl
   refine hK.out _ _ ?_
   clear hK K
   refine done_ (by kernel_rfl) ?_
   have HUR:=Aside0.mk (show al.length + x.f3.length ≤ n12 from by have:=(Kd.N_reads' HU.out).2.1;rw [List.length_append] at this;exact this)
   have HPUT:=Aside0.mk (HTF.out.putA (i:=As.length - 1) (by have:=HPOS.out;omega) HCL.out (fun j u hj => pw_cell_below HB8.out (by have:=HCC.out j u hj;simpa [add_plain,show (Kd.slice 26 k26).sz = 1 from rfl] using this)) (Kd.F_mono (Kd.N_F HU.out) (fun k hk => hk)) (by have:=(Kd.N_reads' HU.out).2.1;exact this) HBA.out)
   have hpt:=HPUT.out
   rw [List.length_append] at hpt
   have HPT:=Aside0.mk hpt
   obtain ⟨w14,hw14⟩ : ∃ W,W = w12_.setCell ⟨ba,As.length - 1,none⟩ (Value.slice A12 (al.length + x.f3.length) n12):=⟨_,rfl⟩
   rw [← hw14] at HPT
   rw [← hw14]
   clear HT0 HT HB8 HFA8 HBLK HNW HOLD HU HU2 HTF HEL hd8 hf8 hHeld hpt HPUT hw14 p8 q8
   go_wp2
   go_roundg gl
   case measure => omega
   case rel =>
    have hln : (As.set (As.length - 1) (al ++ x.f3)).length = As.length:=List.length_set
    refine ⟨i + 1,As.set (As.length - 1) (al ++ x.f3),Cs,Ts,_,vB,vC,by simp [wk],⟨by have:=HI.out;omega⟩,⟨HPT.out.st⟩,?_,?_⟩
    ·have h1:=HB.out
     have h4:=h1.a
     have h5:=h1.c
     have h6:=h1.t
     rw [wtL] at h4
     refine ⟨⟨by omega,by omega,by omega,fun a ha => ?_⟩⟩
     rcases List.mem_or_eq_of_mem_set ha with ha | rfl
     ·have h7:=h1.e a ha
      rw [wtL] at h7
      omega
     ·have hm : al ∈ As:=by
       have h8:=HPOS.out
       rw [HAL.out,List.getD_eq_getElem?_getD,List.getElem?_eq_getElem (show As.length - 1 < As.length by omega),Option.getD_some]
       exact List.getElem_mem _
      have h7:=h1.e al hm
      rw [wtL,wtS] at h7
      rw [List.length_append]
      omega
    ·have h1:=HL.out
     rw [actS,if_pos HCA.out] at h1
     rw [HAL.out]
     exact ⟨h1⟩
  ·have c1 : (x.f0 == 1) = false:=beq_eq_false_iff_ne.mpr ca
   obtain ⟨gs,hgs⟩ : ∃ k,k = wr.heap.size:=⟨_,rfl⟩
   have HX0 : Aside0 (gs = wr.heap.size):=⟨hgs⟩
   go_wp2
   clear hx0 hx1 hx2 hx3
   rw [← hgs] at HT0
   rw [← hgs]
   clear hgs
   obtain ⟨M,hM⟩ : ∃ M,M = x.f1.toNat:=⟨_,rfl⟩
   have HM:=Aside0.mk hM
   clear hM
   have HCA:=Aside0.mk ca
   clear ca
   go_loopg [41] M (fun m v41 wx => ∃ (j : Nat) (Bs : List (List S26)) (Ds : List Bool) (Es : List (List S91)) (vA vB vC : Value),v41 = .int .i64 (j : Int) ∧ Aside0 (m + j = M) ∧ Aside0 (AcT w g Bs Ds Es vA vB vC vA vB vC gs x A2 c2 A3 c3 wx) ∧ Aside0 (Bs = As ++ List.replicate j [] ∧ Ds = Cs ++ List.replicate j (x.f0 == 2) ∧ Es = Ts ++ List.replicate j x.f2))
   case atStart => exact ⟨0,As,Cs,Ts,vA,vB,vC,rfl,⟨rfl⟩,HT0,⟨by simp⟩⟩
   case round =>
    clear HT0
    obtain ⟨j,Bs,Ds,Es,vA,vB,vC,rfl,HJ,HT,HE⟩:=hrel
    have hq1 : wr.cell? ⟨gs,1,none⟩ = some (.int .i64 x.f1):=(blk_cell HT.out.bx 1).trans rfl
    by_cases d3 : j < M
    rotate_left
    ·have g1 : decide ((j : Int) < x.f1) = false:=decide_eq_false (by have:=HM.out;omega)
     have wk1:=wk
     have HE2:=Aside0.mk (show j = M by have:=HJ.out;omega)
     clear HJ
     go_wp2
     go_roundg gl
     case measure => omega
     case rel =>
      refine ⟨i + 1,Bs,Ds,Es,vA,vB,vC,by simp [wk],⟨by have:=HI.out;omega⟩,⟨HT.out.st⟩,?_,?_⟩
      ·obtain ⟨b1,b2,b3⟩:=HE.out
       have h1:=HB.out
       have h2:=HM.out
       have h3:=HE2.out
       have h4:=h1.a
       have h5:=h1.c
       have h6:=h1.t
       rw [wtL,wtS] at h4
       refine ⟨⟨?_,?_,?_,fun a ha => ?_⟩⟩
       ·rw [b1,List.length_append,List.length_replicate];omega
       ·rw [b1,b2,List.length_append,List.length_append,List.length_replicate,List.length_replicate];omega
       ·rw [b1,b3,List.length_append,List.length_append,List.length_replicate,List.length_replicate];omega
       ·rw [b1] at ha
        rcases List.mem_append.1 ha with ha | ha
        ·have h7:=h1.e a ha
         rw [wtL] at h7
         omega
        ·rw [List.eq_of_mem_replicate ha,List.length_nil]
         have h8 : 0 < As.length:=by omega
         omega
      ·obtain ⟨b1,b2,b3⟩:=HE.out
       have h1:=HL.out
       rw [actS,if_neg HCA.out,← HM.out,← HE2.out] at h1
       rw [b1,b2,b3]
       exact ⟨h1⟩
    obtain ⟨g2,rfl⟩ : ∃ g2,gk = g2 + 1:=⟨gk - 1,by have:=HJ.out;omega⟩
    have g1 : decide ((j : Int) < x.f1) = true:=decide_eq_true (by have:=HM.out;omega)
    have HJM:=Aside0.mk d3
    clear d3
    have HLB:=Aside0.mk (show Bs.length ≤ 1073741825 ∧ Ds.length ≤ 1073741825 ∧ Es.length ≤ 1073741825 by
     have h1:=HB.out
     have h2:=HE.out
     have h3:=h1.a
     have h4:=h1.c
     have h5:=h1.t
     have h6:=HM.out
     have h7:=HJM.out
     rw [wtL,wtS] at h3
     rw [h2.1,h2.2.1,h2.2.2]
     simp only [List.length_append,List.length_replicate]
     omega)
    have wk3 : wrap64 ((j : Int) + 1) = (j : Int) + 1:=by
     have h1:=HB.out.a
     have h6:=HM.out
     have h7:=HJM.out
     rw [wtL,wtS] at h1
     unfold wrap64
     omega
    have HWK3:=Aside0.mk wk3
    clear wk3 hq1
    obtain ⟨A5,n5,e5⟩:=Kd.N_slice HT.out.st.rA
    subst e5
    obtain ⟨A6,n6,e6⟩:=Kd.R_slice HT.out.st.rB
    subst e6
    obtain ⟨A7,n7,e7⟩:=Kd.N_slice HT.out.st.rC
    subst e7
    have hcA : wr.cell? ⟨g,0,none⟩ = some (.slice A5 Bs.length n5):=(blk_cell HT.out.st.bk 0).trans rfl
    have hq1 : wr.cell? ⟨gs,1,none⟩ = some (.int .i64 x.f1):=(blk_cell HT.out.bx 1).trans rfl
    go_upto_region 12 with (at_builtin;go_loud (refine Kd.N_append (Kd.slice 26 k26) (w0:=w) w.heap.size rfl (.tmp 44) (.tmp 45) 100 22 (.slice none 0 0) 24 rfl Try.underlying100 info22 rfl (by decide) (by decide) _ Bs [] _ _ (fun _ => False) rfl (by simp [Act.eval]) (fk_slice (Kd.F_nil _ _ _) (Nat.le_refl 0)) (fun _ hk => hk.elim) HT.out.st.freshA HT.out.st.rA HT.out.st.bel HT.out.st.bel.size (by have:=HLB.out;omega) ?_;intro v1 w7 hN7 hB7 hg7 hat7;obtain ⟨Bx,hBx⟩ : ∃ l,l = Bs ++ [[]]:=⟨_,rfl⟩;rw [← hBx] at hN7;have HBX:=Aside0.mk hBx;clear hBx;obtain ⟨B7,m7,e7⟩:=Kd.N_slice hN7;subst e7;have HT7:=Aside0.mk (HT.out.appA hN7 hg7 hat7 hB7);have hd0 : w7.cell? ⟨g,0,none⟩ = some _:=(blk_cell HT7.out.st.bk 0).trans rfl;have hf0:=blk_frozen HT7.out.st.bk 0;clear hN7 hB7 hg7 hat7))
    have HT8:=Aside0.mk (HT7.out.set 0 (.slice B7 Bx.length m7) (.slice B7 Bx.length m7) (.slice A6 Ds.length n6) (.slice A7 Es.length n7) rfl)
    obtain ⟨w8,hw8⟩ : ∃ W,W = w7.setCell ⟨g,0,none⟩ (Value.slice B7 Bx.length m7):=⟨_,rfl⟩
    rw [← hw8] at HT8
    rw [← hw8]
    clear hw8 hd0 hf0 HT7 HT hcA hq1
    have hcB : w8.cell? ⟨g,1,none⟩ = some (.slice A6 Ds.length n6):=(blk_cell HT8.out.st.bk 1).trans rfl
    have hx0' : w8.cell? ⟨gs,0,none⟩ = some (.int .i64 x.f0):=(blk_cell HT8.out.bx 0).trans rfl
    obtain ⟨zb,hzb⟩ : ∃ b,(x.f0 == 2) = b:=⟨_,rfl⟩
    have HZB:=Aside0.mk hzb
    go_upto_region 13 with (at_builtin;go_loud (refine Kd.R_append Kd.bool (w0:=w) w.heap.size rfl (.tmp 49) (.tmp 53) 54 4 (.bool false) 1 rfl Try.underlying54 info4 rfl (by decide) (by decide) _ Ds zb _ _ (fun _ => False) rfl (by simp [Act.eval]) rfl (fun _ hk => hk.elim) HT8.out.st.freshB HT8.out.st.rB HT8.out.st.bel HT8.out.st.bel.size (by have:=HLB.out;omega) ?_;intro v1 w9 hR9 hB9 hg9 hat9;obtain ⟨Dx,hDx⟩ : ∃ l,l = Ds ++ [zb]:=⟨_,rfl⟩;rw [← hDx] at hR9;have HDX:=Aside0.mk hDx;clear hDx;obtain ⟨B9,m9,e9⟩:=Kd.R_slice hR9;subst e9;have HT9:=Aside0.mk (HT8.out.appB hR9 hg9 hat9 hB9);have hd1 : w9.cell? ⟨g,1,none⟩ = some _:=(blk_cell HT9.out.st.bk 1).trans rfl;have hf1:=blk_frozen HT9.out.st.bk 1;clear hR9 hB9 hg9 hat9))
    have HT10:=Aside0.mk (HT9.out.set 1 (.slice B9 Dx.length m9) (.slice B7 Bx.length m7) (.slice B9 Dx.length m9) (.slice A7 Es.length n7) rfl)
    obtain ⟨w10,hw10⟩ : ∃ W,W = w9.setCell ⟨g,1,none⟩ (Value.slice B9 Dx.length m9):=⟨_,rfl⟩
    rw [← hw10] at HT10
    rw [← hw10]
    clear hw10 hd1 hf1 HT9 HT8 hcB hx0' hzb
    have hcC : w10.cell? ⟨g,2,none⟩ = some (.slice A7 Es.length n7):=(blk_cell HT10.out.st.bk 2).trans rfl
    have hx2' : w10.cell? ⟨gs,2,none⟩ = some (.slice A2 x.f2.length c2):=(blk_cell HT10.out.bx 2).trans rfl
    have HFT : Aside0 (Kd.F k91 w10 (fun k => k < w.heap.size) A2 x.f2.length x.f2):=⟨Kd.F_step (Kd.C_F k91_heap HG2.out) (fun k hk _ => HT10.out.st.bel.block k hk)⟩
    go_upto_region 14 with (at_builtin;go_loud (refine Kd.N_append (Kd.slice 91 k91) (w0:=w) w.heap.size rfl (.tmp 57) (.tmp 60) 101 24 (.slice none 0 0) 24 rfl Try.underlying101 info24 rfl (by decide) (by decide) _ Es x.f2 _ _ (fun k => k < w.heap.size) rfl (by simp [Act.eval]) (fk_slice HFT.out HL2.out) (fun k hk => ⟨(HT10.out.st.old k hk).1,(HT10.out.st.old k hk).2⟩) HT10.out.st.freshC HT10.out.st.rC HT10.out.st.bel HT10.out.st.bel.size (by have:=HLB.out;omega) ?_;intro v1 w11 hN11 hB11 hg11 hat11;obtain ⟨Ex,hEx⟩ : ∃ l,l = Es ++ [x.f2]:=⟨_,rfl⟩;rw [← hEx] at hN11;have HEX:=Aside0.mk hEx;clear hEx;obtain ⟨B11,m11,e11⟩:=Kd.N_slice hN11;subst e11;have HT11:=Aside0.mk (HT10.out.appC hN11 hg11 hat11 hB11);have hd2 : w11.cell? ⟨g,2,none⟩ = some _:=(blk_cell HT11.out.st.bk 2).trans rfl;have hf2:=blk_frozen HT11.out.st.bk 2;clear hN11 hB11 hg11 hat11))
    have HT12:=Aside0.mk (HT11.out.set 2 (.slice B11 Ex.length m11) (.slice B7 Bx.length m7) (.slice B9 Dx.length m9) (.slice B11 Ex.length m11) rfl)
    obtain ⟨w12,hw12⟩ : ∃ W,W = w11.setCell ⟨g,2,none⟩ (Value.slice B11 Ex.length m11):=⟨_,rfl⟩
    rw [← hw12] at HT12
    rw [← hw12]
    clear hw12 hd2 hf2 HT11 HT10 hcC hx2' HFT
    have wk3:=HWK3.out
    go_wp2
    go_roundg g2
    case measure => omega
    case rel =>
     refine ⟨j + 1,Bx,Dx,Ex,_,_,_,by simp [wk3],⟨by have:=HJ.out;omega⟩,HT12,⟨?_⟩⟩
     obtain ⟨b1,b2,b3⟩:=HE.out
     rw [HBX.out,HDX.out,HEX.out,b1,b2,b3,← HZB.out]
     simp only [List.replicate_succ',List.append_assoc,and_self]
theorem let_ab : chancerykeep1_letters.f 20 (⟨#[97,98]⟩ : ByteArray) = some [⟨97,0,[]⟩,⟨98,0,[]⟩]:=by kernel_rfl
theorem let_x : chancerykeep1_letters.f 20 (⟨#[120]⟩ : ByteArray) = some [⟨120,0,[]⟩]:=by kernel_rfl
theorem let_xb : chancerykeep1_letters.f 20 (⟨#[120,98]⟩ : ByteArray) = some [⟨120,0,[]⟩,⟨98,0,[]⟩]:=by kernel_rfl
theorem app_ab : delta_Apply.f 40 [⟨97,0,[]⟩,⟨98,0,[]⟩] [⟨1,0,[],[⟨120,0,[]⟩]⟩,⟨2,1,[],[]⟩,⟨0,1,[],[]⟩] = some ([⟨120,0,[]⟩,⟨98,0,[]⟩],0):=by kernel_rfl
theorem same_xb : chanceryref1_SameFlow.f 40 [⟨120,0,[]⟩,⟨98,0,[]⟩] [⟨120,0,[]⟩,⟨98,0,[]⟩] = some true:=by kernel_rfl
set_option maxRecDepth 100000 in
set_option maxHeartbeats 800000 in
theorem deltas_calls (w : World) : Calls Try.prog 13 #[] w fun e w' => e = .returned (.bool true) ∧ Below w.heap.size w w':=by
 have hu95:=Try.underlying95
 have HB0:=Aside0.mk (Below.refl w.heap.size w)
 obtain ⟨la,hla⟩ : ∃ l : List S26,l = [⟨97,0,[]⟩,⟨98,0,[]⟩]:=⟨_,rfl⟩
 obtain ⟨lx,hlx⟩ : ∃ l : List S26,l = [⟨120,0,[]⟩]:=⟨_,rfl⟩
 obtain ⟨lr,hlr⟩ : ∃ l : List S26,l = [⟨120,0,[]⟩,⟨98,0,[]⟩]:=⟨_,rfl⟩
 have H1:=Aside0.mk let_ab
 have H2:=Aside0.mk let_x
 have H3:=Aside0.mk app_ab
 have H4:=Aside0.mk let_xb
 have H5:=Aside0.mk same_xb
 rw [← hla] at H1 H3
 rw [← hlx] at H2 H3
 obtain ⟨ld,hld⟩ : ∃ l : List S95,l = [⟨1,0,[],lx⟩,⟨2,1,[],[]⟩,⟨0,1,[],[]⟩]:=⟨_,rfl⟩
 rw [← hld] at H3
 have HLD:=Aside0.mk hld
 clear hld
 rw [← hlr] at H3 H4 H5
 clear hla hlx hlr
 go_enter Try.func13,Try.ntmps13
 go_upto_region 2 with (first | (go_at_call 48;with_reducible refine (chancerykeep1_letters.calls 20 _ la _ H1.out).mono ?_;rintro e w1 ⟨v1,rfl,hN1,hb1⟩;obtain ⟨A1,n1,rfl⟩:=Kd.S_slice hN1;have HN1:=Aside0.mk hN1;have HB1:=Aside0.mk hb1;clear hN1 hb1) | (go_at_call 48;with_reducible refine (chancerykeep1_letters.calls 20 _ lx _ H2.out).mono ?_;rintro e w2 ⟨v2,rfl,hN2,hb2⟩;obtain ⟨A2,n2,rfl⟩:=Kd.S_slice hN2;have HN2:=Aside0.mk hN2;have HB2:=Aside0.mk (below_step HB1.out hb2);have HN1':=Aside0.mk (Kd.S_below HN1.out hb2);clear hN2 hb2 HN1) | ((with_reducible refine gate_dst (N:=9) rfl ?_);refine Kd.N_lit k95 w2.heap.size 95 ?hg (N':=9) ?hd (xs:=[⟨1,0,[],lx⟩,⟨2,1,[],[]⟩,⟨0,1,[],[]⟩]) (inner:=[.int .i64 1,.int .i64 0,.slice none 0 0,.slice A2 lx.length n2,.int .i64 2,.int .i64 1,.slice none 0 0,.slice none 0 0,.int .i64 0,.int .i64 1,.slice none 0 0,.slice none 0 0]) (ok:=fun _ => True) (okp:=fun _ => True) ?hr ?hp (fun _ hk => hk) trivial (Below.refl _ _) (Nat.le_refl _) (by simp) ?_;(case hd => rfl);(case hg => rfl);(case hr => (go_simp;done));(case hp => exact Reps.c4 (k95_mkF _ _ ⟨1,0,[],lx⟩ (Nat.le_refl 0) (Kd.F_nil _ _ _) (Kd.N_reads' (Kd.S_N HN2.out)).2.1 (Kd.S_F HN2.out)) (Reps.c4 (k95_mkF _ _ ⟨2,1,[],[]⟩ (Nat.le_refl 0) (Kd.F_nil _ _ _) (Nat.le_refl 0) (Kd.F_nil _ _ _)) (Reps.c4 (k95_mkF _ _ ⟨0,1,[],[]⟩ (Nat.le_refl 0) (Kd.F_nil _ _ _) (Nat.le_refl 0) (Kd.F_nil _ _ _)) (Reps.none _ _))));intro v3 w3 hN3 hb3 hg3 hat3;rw [← HLD.out] at hN3;obtain ⟨A3,n3,rfl⟩:=Kd.N_slice hN3;have HN3:=Aside0.mk hN3;have HB3:=Aside0.mk (below_step HB2.out hb3);have HN1:=Aside0.mk (Kd.S_below HN1'.out hb3);clear hN3 hb3 hg3 hat3 HN1') | (go_at_call 22;with_reducible refine (delta_Apply.calls 40 (fun _ => True) A1 n1 la A3 n3 ld lr 0 _ (Kd.S_V HN1.out) (Kd.N_reads' HN3.out).2.2 (Kd.N_reads' HN3.out).2.1 H3.out).mono ?_;rintro e w4 ⟨v4,rfl,hN4,hb4⟩;obtain ⟨A4,n4,rfl⟩:=Kd.N_slice hN4;have HN4:=Aside0.mk hN4;have HB4:=Aside0.mk (below_step HB3.out hb4);clear hN4 hb4))
 go_wp2_with (first | (go_at_call 48;with_reducible refine (chancerykeep1_letters.calls 20 _ lr _ H4.out).mono ?_;rintro e w5 ⟨v5,rfl,hN5,hb5⟩;obtain ⟨A5,n5,rfl⟩:=Kd.S_slice hN5;have HN5:=Aside0.mk hN5;have HB5:=Aside0.mk (below_step HB4.out hb5);have HN4':=Aside0.mk (Kd.N_below HN4.out hb5);clear hN5 hb5 HN4) | (go_at_call 28;with_reducible refine (chanceryref1_SameFlow.calls 40 A4 n4 lr A5 n5 lr true _ (Kd.N_reads' HN4'.out).2.2 (Kd.N_reads' HN4'.out).2.1 (Kd.N_reads' (Kd.S_N HN5.out)).2.2 (Kd.N_reads' (Kd.S_N HN5.out)).2.1 H5.out).mono ?_;rintro e w6 ⟨rfl,hb6⟩;have HB6:=Aside0.mk (below_step HB5.out hb6);clear hb6))
 go_ret
 exact ⟨rfl,HB6.out⟩
theorem Ev.one {α : Type} {g : Nat → Option α} {r q : α} (h : Ev g r) (k : Ev g q) : r = q:=by
 obtain ⟨K,hK⟩:=h
 obtain ⟨L,hL⟩:=k
 exact Option.some.inj ((hK (K + L) (by omega)).symm.trans (hL (K + L) (by omega)))
open Classical in
noncomputable def ever {α : Type} (g : Nat → Option α) : Option α:=if h : ∃ r,Ev g r then some h.choose else none
theorem ever_of {α : Type} {g : Nat → Option α} {r : α} (h : Ev g r) : ever g = some r:=by
 have hx : ∃ r,Ev g r:=⟨r,h⟩
 rw [ever,dif_pos hx]
 exact congrArg some (Ev.one hx.choose_spec h)
theorem ever_ev {α : Type} {g : Nat → Option α} {r : α} (h : ever g = some r) : Ev g r:=by
 unfold ever at h
 split at h
 ·rename_i hx
  obtain rfl:=Option.some.inj h
  exact hx.choose_spec
 ·cases h
noncomputable def delta_Tidy.f (l0 : List S95) : Option (List S95 × Int):=ever (fun k => tidyF k l0)
theorem delta_Tidy.calls (A0 : Option Addr) (c0 : Nat) (l0 : List S95) (r1 : List S95) (r2 : Int) (w : World) (hr0 : Kd.C k95 w A0 l0.length l0) (hc0 : l0.length ≤ c0) (h : delta_Tidy.f l0 = some (r1,r2)) :
 Calls Try.prog 85 #[.slice A0 l0.length c0] w fun e w' => ∃ v0_ : Value,e = .returned (.tuple #[v0_,.int .i64 r2]) ∧ Kd.N k95 95 w' w.heap.size (fun k_ => (w.heap.size ≤ k_)) v0_ r1 ∧ Below w.heap.size w w':=by
 obtain ⟨k,hk⟩:=(ever_ev h).rounds
 exact tidy_callsN k A0 c0 l0 r1 r2 w hr0 hc0 hk
def chancerykeep1_deltas.f : Option Bool:=some true
theorem chancerykeep1_deltas.calls (r : Bool) (w : World) (h : chancerykeep1_deltas.f = some r) :
 Calls Try.prog 13 #[] w fun e w' => e = .returned (.bool r) ∧ Below w.heap.size w w':=by
 obtain rfl:=Option.some.inj h
 exact deltas_calls w
end Go.Proofs.Ytlcodfjlbhjkbaa.PDelta
end
section
namespace Go.Proofs.Ytlcodfjlbhjkbaa.PDelta
open Go.RowKit Go.Proofs.YtlcodfjlbhjkbaaW.PrintWords Go.Proofs.YtlcodfjlbhjkbaaW.PrintLast Go.Proofs.YtlcodfjlbhjkbaaW.PrintMore
attribute [local go_sem] max2_int min2_int max_two min_two max_three min_three max_four min_four
attribute [local go_sem high] Go.Proofs.Ytlcodfjlbhjkbaa.Ord.leq_str Go.Proofs.Ytlcodfjlbhjkbaa.Ord.gtr_str Go.Proofs.Ytlcodfjlbhjkbaa.Ord.geq_str
def chanceryref1_FlowError.l0 : Nat → List (S26) → Bool → Int → Int → Option (Int)
 | 0,_,_,_,_ => none
 | k + 1,x0,x1,x8,x9 => if x9 < x8 then (if 0 ≤ x9 then (if x9 < (x0.length : Int) then ((chanceryref1_ElemError.f k ((rd_T26 x0 x9).f0) ((rd_T26 x0 x9).f1) ((rd_T26 x0 x9).f2)).bind fun t282 => (if t282 = 0 then (if x1 = true then (chanceryref1_FlowError.l0 k x0 x1 x8 (wrap64 (x9 + 1))) else (if ((rd_T26 x0 x9).f0) = 0 then (chanceryref1_FlowError.l0 k x0 x1 x8 (wrap64 (x9 + 1))) else (some 8))) else (some t282))) else (none)) else (none)) else (if x1 = true then (if (x0.length : Int) = 0 then (some 11) else (if 0 ≤ (wrap64 ((x0.length : Int) - 1)) then (if (wrap64 ((x0.length : Int) - 1)) < (x0.length : Int) then (if ((rd_T26 x0 (wrap64 ((x0.length : Int) - 1))).f0) = 10 then (some 0) else (some 11)) else (none)) else (none))) else (some 0))
def chanceryref1_FlowError.f (k : Nat) (l0 : List (S26)) (a1 : Bool) : Option (Int):=chanceryref1_FlowError.l0 k l0 a1 (l0.length : Int) 0
set_option maxHeartbeats 8000000 in
set_option maxRecDepth 100000 in
theorem chanceryref1_FlowError.calls (k : Nat) (A0 : Option Addr) (c0 : Nat) (l0 : List (S26)) (a1 : Bool) (r : Int) (w : World) (hr0 : Kd.C k26 w A0 l0.length l0) (hc0 : l0.length ≤ c0) (h : chanceryref1_FlowError.f k l0 a1 = some r) :
 Calls Try.prog 17 #[.slice A0 l0.length c0,.bool a1] w fun e w' => e = .returned (.int .i64 r) ∧ Below w.heap.size w w':=by
 have hu26:=Try.underlying26
 have HR0:=Aside0.mk hr0
 have HC0:=Aside0.mk hc0
 clear hr0 hc0
 have HB:=Aside0.mk (Below.refl w.heap.size w)
 have H : (chanceryref1_FlowError.l0 k l0 a1 (l0.length : Int) 0) = some r:=h
 clear h
 have H':=Aside0.mk H
 clear H
 go_enter Try.func17,Try.ntmps17
 go_wp2
 go_loopg [9] k (fun kq v9 w' => ∃ (x9_1 : Int),v9 = .int .i64 x9_1 ∧ Aside0 (chanceryref1_FlowError.l0 kq l0 a1 (l0.length : Int) x9_1 = some r) ∧ Aside0 (kq ≤ k) ∧ Aside0 (Below w.heap.size w w'))
 case atStart => exact ⟨(0),(by rfl),H',⟨Nat.le_refl _⟩,⟨HB.out⟩⟩
 case round =>
  clear H'
  obtain ⟨x9_1,rfl,HA,HK1,HB⟩:=hrel
  cases gk with
  | zero => exact absurd HA.out (by simp [chanceryref1_FlowError.l0])
  | succ k1 =>
   have H:=HA.out
   clear HA
   simp only [chanceryref1_FlowError.l0] at H
   by_cases c3 : x9_1 < (l0.length : Int)
   ·rw [if_pos c3] at H
    have c3b0 : decide (x9_1 < (l0.length : Int)) = true:=decide_eq_true c3
    clear c3
    by_cases c4 : 0 ≤ x9_1
    ·rw [if_pos c4] at H
     have c4b0 : decide (0 ≤ x9_1) = true:=decide_eq_true c4
     clear c4
     by_cases c5 : x9_1 < (l0.length : Int)
     ·rw [if_pos c5] at H
      have c5b0 : decide (x9_1 < (l0.length : Int)) = true:=decide_eq_true c5
      clear c5
      replace H:=Option.bind_eq_some_iff.mp H
      obtain ⟨t282,A60,H⟩:=H
      replace H : (if t282 = 0 then (if a1 = true then (chanceryref1_FlowError.l0 k1 l0 a1 (l0.length : Int) (wrap64 (x9_1 + 1))) else (if ((rd_T26 l0 x9_1).f0) = 0 then (chanceryref1_FlowError.l0 k1 l0 a1 (l0.length : Int) (wrap64 (x9_1 + 1))) else (some 8))) else (some t282)) = some r:=H
      have A6:=Aside0.mk A60
      clear A60
      by_cases c7 : t282 = 0
      ·rw [if_pos c7] at H
       have c7b0 : (t282 == 0) = true:=beq_iff_eq.mpr c7
       have c7b1 : (t282 != 0) = false:=bne_eq_false_iff_eq.mpr c7
       clear c7
       by_cases c8 : a1 = true
       ·subst c8
        have H1 : (chanceryref1_FlowError.l0 k1 l0 true (l0.length : Int) (wrap64 (x9_1 + 1))) = some r:=by rw [if_pos rfl] at H;exact H
        clear H
        have H:=H1
        clear H1
        have H':=Aside0.mk H
        clear H
        have p281 : 0 ≤ (x9_1 : Int):=of_decide_eq_true (by assumption)
        have q281 : x9_1 < (l0.length : Int):=of_decide_eq_true (by assumption)
        obtain ⟨ad281,A281_2,c281_2,e281,hx281_0,hx281_1,hx281_2,hl281_2,hi281_2⟩:=at_T26 HR0.out x9_1 p281 q281
        cases e281
        replace hx281_0:=(HB.out.cell (World.block_lt_of_cell? w _ hx281_0)).trans hx281_0
        replace hx281_1:=(HB.out.cell (World.block_lt_of_cell? w _ hx281_1)).trans hx281_1
        replace hx281_2:=(HB.out.cell (World.block_lt_of_cell? w _ hx281_2)).trans hx281_2
        have HR281_2:=Aside0.mk hi281_2
        have HC281_2:=Aside0.mk hl281_2
        clear hi281_2 hl281_2
        replace p281:=eq_true p281
        replace q281:=eq_true q281
        go_wp2_with (((with_reducible refine gate_callee (f:=50) rfl ?_);refine goesL_ (some 16) rfl rfl Try.func50 (by kernel_rfl) rfl #[.agg #[.int .i64 ((rd_T26 l0 x9_1).f0),.int .i64 ((rd_T26 l0 x9_1).f1),.slice A281_2 ((rd_T26 l0 x9_1).f2).length c281_2]] rfl (by (try simp only [List.map_toArray,List.map_cons,List.map_nil]);rfl) ?_;(with_reducible refine (chanceryref1_ElemError.calls k1 ((rd_T26 l0 x9_1).f0) ((rd_T26 l0 x9_1).f1) _ _ ((rd_T26 l0 x9_1).f2) t282 _ ?side1 ?side2 A6.out).mono ?_);(case side1 => repeat (exact (Kd.C_below HR281_2.out HB.out)));(case side2 => exact HC281_2.out);rintro e w9 ⟨rfl,hb⟩;refine ⟨_,rfl,?_⟩;replace HB:=Aside0.mk (below_step (by with_reducible exact HB.out) hb);(try clear hb);(try clear hb2);(try clear hk);(try clear hi)))
        go_roundg k1
        case measure => have:=HK1.out;omega
        case rel => exact ⟨(wrap64 (x9_1 + 1)),(by rfl),H',⟨by have:=HK1.out;omega⟩,⟨HB.out⟩⟩
       ·replace c8:=Bool.eq_false_iff.mpr c8
        subst c8
        have H1 : (if ((rd_T26 l0 x9_1).f0) = 0 then (chanceryref1_FlowError.l0 k1 l0 false (l0.length : Int) (wrap64 (x9_1 + 1))) else (some 8)) = some r:=by rw [if_neg (show ¬ (false = true) by decide)] at H;exact H
        clear H
        have H:=H1
        clear H1
        by_cases c10 : ((rd_T26 l0 x9_1).f0) = 0
        ·rw [if_pos c10] at H
         have c10b0 : (((rd_T26 l0 x9_1).f0) == 0) = true:=beq_iff_eq.mpr c10
         have c10b1 : (((rd_T26 l0 x9_1).f0) != 0) = false:=bne_eq_false_iff_eq.mpr c10
         clear c10
         have H':=Aside0.mk H
         clear H
         have p281 : 0 ≤ (x9_1 : Int):=of_decide_eq_true (by assumption)
         have q281 : x9_1 < (l0.length : Int):=of_decide_eq_true (by assumption)
         obtain ⟨ad281,A281_2,c281_2,e281,hx281_0,hx281_1,hx281_2,hl281_2,hi281_2⟩:=at_T26 HR0.out x9_1 p281 q281
         cases e281
         replace hx281_0:=(HB.out.cell (World.block_lt_of_cell? w _ hx281_0)).trans hx281_0
         replace hx281_1:=(HB.out.cell (World.block_lt_of_cell? w _ hx281_1)).trans hx281_1
         replace hx281_2:=(HB.out.cell (World.block_lt_of_cell? w _ hx281_2)).trans hx281_2
         have HR281_2:=Aside0.mk hi281_2
         have HC281_2:=Aside0.mk hl281_2
         clear hi281_2 hl281_2
         replace p281:=eq_true p281
         replace q281:=eq_true q281
         go_wp2_with (((with_reducible refine gate_callee (f:=50) rfl ?_);refine goesL_ (some 16) rfl rfl Try.func50 (by kernel_rfl) rfl #[.agg #[.int .i64 ((rd_T26 l0 x9_1).f0),.int .i64 ((rd_T26 l0 x9_1).f1),.slice A281_2 ((rd_T26 l0 x9_1).f2).length c281_2]] rfl (by (try simp only [List.map_toArray,List.map_cons,List.map_nil]);rfl) ?_;(with_reducible refine (chanceryref1_ElemError.calls k1 ((rd_T26 l0 x9_1).f0) ((rd_T26 l0 x9_1).f1) _ _ ((rd_T26 l0 x9_1).f2) t282 _ ?side1 ?side2 A6.out).mono ?_);(case side1 => repeat (exact (Kd.C_below HR281_2.out HB.out)));(case side2 => exact HC281_2.out);rintro e w11 ⟨rfl,hb⟩;refine ⟨_,rfl,?_⟩;replace HB:=Aside0.mk (below_step (by with_reducible exact HB.out) hb);(try clear hb);(try clear hb2);(try clear hk);(try clear hi);have p283 : 0 ≤ (x9_1 : Int):=of_decide_eq_true (by assumption);have q283 : x9_1 < (l0.length : Int):=of_decide_eq_true (by assumption);obtain ⟨ad283,A283_2,c283_2,e283,hx283_0,hx283_1,hx283_2,hl283_2,hi283_2⟩:=at_T26 HR0.out x9_1 p283 q283;obtain rfl : ad281 = ad283:=(by injection e283);replace hx283_0:=(HB.out.cell (World.block_lt_of_cell? w _ hx283_0)).trans hx283_0;replace hx283_1:=(HB.out.cell (World.block_lt_of_cell? w _ hx283_1)).trans hx283_1;replace hx283_2:=(HB.out.cell (World.block_lt_of_cell? w _ hx283_2)).trans hx283_2;have HR283_2:=Aside0.mk hi283_2;have HC283_2:=Aside0.mk hl283_2;clear hi283_2 hl283_2;replace p283:=eq_true p283;replace q283:=eq_true q283))
         go_roundg k1
         case measure => have:=HK1.out;omega
         case rel => exact ⟨(wrap64 (x9_1 + 1)),(by rfl),H',⟨by have:=HK1.out;omega⟩,⟨HB.out⟩⟩
        ·rw [if_neg c10] at H
         have c10b0 : (((rd_T26 l0 x9_1).f0) == 0) = false:=beq_eq_false_iff_ne.mpr c10
         have c10b1 : (((rd_T26 l0 x9_1).f0) != 0) = true:=bne_iff_ne.mpr c10
         obtain rfl:=Option.some.inj H
         have p281 : 0 ≤ (x9_1 : Int):=of_decide_eq_true (by assumption)
         have q281 : x9_1 < (l0.length : Int):=of_decide_eq_true (by assumption)
         obtain ⟨ad281,A281_2,c281_2,e281,hx281_0,hx281_1,hx281_2,hl281_2,hi281_2⟩:=at_T26 HR0.out x9_1 p281 q281
         cases e281
         replace hx281_0:=(HB.out.cell (World.block_lt_of_cell? w _ hx281_0)).trans hx281_0
         replace hx281_1:=(HB.out.cell (World.block_lt_of_cell? w _ hx281_1)).trans hx281_1
         replace hx281_2:=(HB.out.cell (World.block_lt_of_cell? w _ hx281_2)).trans hx281_2
         have HR281_2:=Aside0.mk hi281_2
         have HC281_2:=Aside0.mk hl281_2
         clear hi281_2 hl281_2
         replace p281:=eq_true p281
         replace q281:=eq_true q281
         go_wp2_with (((with_reducible refine gate_callee (f:=50) rfl ?_);refine goesL_ (some 16) rfl rfl Try.func50 (by kernel_rfl) rfl #[.agg #[.int .i64 ((rd_T26 l0 x9_1).f0),.int .i64 ((rd_T26 l0 x9_1).f1),.slice A281_2 ((rd_T26 l0 x9_1).f2).length c281_2]] rfl (by (try simp only [List.map_toArray,List.map_cons,List.map_nil]);rfl) ?_;(with_reducible refine (chanceryref1_ElemError.calls k1 ((rd_T26 l0 x9_1).f0) ((rd_T26 l0 x9_1).f1) _ _ ((rd_T26 l0 x9_1).f2) t282 _ ?side1 ?side2 A6.out).mono ?_);(case side1 => repeat (exact (Kd.C_below HR281_2.out HB.out)));(case side2 => exact HC281_2.out);rintro e w12 ⟨rfl,hb⟩;refine ⟨_,rfl,?_⟩;replace HB:=Aside0.mk (below_step (by with_reducible exact HB.out) hb);(try clear hb);(try clear hb2);(try clear hk);(try clear hi);have p283 : 0 ≤ (x9_1 : Int):=of_decide_eq_true (by assumption);have q283 : x9_1 < (l0.length : Int):=of_decide_eq_true (by assumption);obtain ⟨ad283,A283_2,c283_2,e283,hx283_0,hx283_1,hx283_2,hl283_2,hi283_2⟩:=at_T26 HR0.out x9_1 p283 q283;obtain rfl : ad281 = ad283:=(by injection e283);replace hx283_0:=(HB.out.cell (World.block_lt_of_cell? w _ hx283_0)).trans hx283_0;replace hx283_1:=(HB.out.cell (World.block_lt_of_cell? w _ hx283_1)).trans hx283_1;replace hx283_2:=(HB.out.cell (World.block_lt_of_cell? w _ hx283_2)).trans hx283_2;have HR283_2:=Aside0.mk hi283_2;have HC283_2:=Aside0.mk hl283_2;clear hi283_2 hl283_2;replace p283:=eq_true p283;replace q283:=eq_true q283))
         go_ret
         exact ⟨by rfl,HB.out⟩
      ·rw [if_neg c7] at H
       have c7b0 : (t282 == 0) = false:=beq_eq_false_iff_ne.mpr c7
       have c7b1 : (t282 != 0) = true:=bne_iff_ne.mpr c7
       obtain rfl:=Option.some.inj H
       have p281 : 0 ≤ (x9_1 : Int):=of_decide_eq_true (by assumption)
       have q281 : x9_1 < (l0.length : Int):=of_decide_eq_true (by assumption)
       obtain ⟨ad281,A281_2,c281_2,e281,hx281_0,hx281_1,hx281_2,hl281_2,hi281_2⟩:=at_T26 HR0.out x9_1 p281 q281
       cases e281
       replace hx281_0:=(HB.out.cell (World.block_lt_of_cell? w _ hx281_0)).trans hx281_0
       replace hx281_1:=(HB.out.cell (World.block_lt_of_cell? w _ hx281_1)).trans hx281_1
       replace hx281_2:=(HB.out.cell (World.block_lt_of_cell? w _ hx281_2)).trans hx281_2
       have HR281_2:=Aside0.mk hi281_2
       have HC281_2:=Aside0.mk hl281_2
       clear hi281_2 hl281_2
       replace p281:=eq_true p281
       replace q281:=eq_true q281
       go_wp2_with (((with_reducible refine gate_callee (f:=50) rfl ?_);refine goesL_ (some 16) rfl rfl Try.func50 (by kernel_rfl) rfl #[.agg #[.int .i64 ((rd_T26 l0 x9_1).f0),.int .i64 ((rd_T26 l0 x9_1).f1),.slice A281_2 ((rd_T26 l0 x9_1).f2).length c281_2]] rfl (by (try simp only [List.map_toArray,List.map_cons,List.map_nil]);rfl) ?_;(with_reducible refine (chanceryref1_ElemError.calls k1 ((rd_T26 l0 x9_1).f0) ((rd_T26 l0 x9_1).f1) _ _ ((rd_T26 l0 x9_1).f2) t282 _ ?side1 ?side2 A6.out).mono ?_);(case side1 => repeat (exact (Kd.C_below HR281_2.out HB.out)));(case side2 => exact HC281_2.out);rintro e w13 ⟨rfl,hb⟩;refine ⟨_,rfl,?_⟩;replace HB:=Aside0.mk (below_step (by with_reducible exact HB.out) hb);(try clear hb);(try clear hb2);(try clear hk);(try clear hi)))
       go_ret
       exact ⟨by rfl,HB.out⟩
     ·rw [if_neg c5] at H
      exact absurd H (by simp)
    ·rw [if_neg c4] at H
     exact absurd H (by simp)
   ·rw [if_neg c3] at H
    have c3b0 : decide (x9_1 < (l0.length : Int)) = false:=decide_eq_false c3
    clear c3
    by_cases c14 : a1 = true
    ·subst c14
     have H1 : (if (l0.length : Int) = 0 then (some 11) else (if 0 ≤ (wrap64 ((l0.length : Int) - 1)) then (if (wrap64 ((l0.length : Int) - 1)) < (l0.length : Int) then (if ((rd_T26 l0 (wrap64 ((l0.length : Int) - 1))).f0) = 10 then (some 0) else (some 11)) else (none)) else (none))) = some r:=by rw [if_pos rfl] at H;exact H
     clear H
     have H:=H1
     clear H1
     by_cases c15 : (l0.length : Int) = 0
     ·rw [if_pos c15] at H
      have c15b0 : ((l0.length : Int) == 0) = true:=beq_iff_eq.mpr c15
      have c15b1 : ((l0.length : Int) != 0) = false:=bne_eq_false_iff_eq.mpr c15
      clear c15
      obtain rfl:=Option.some.inj H
      go_wp2
      go_ret
      exact ⟨by rfl,HB.out⟩
     ·rw [if_neg c15] at H
      have c15b0 : ((l0.length : Int) == 0) = false:=beq_eq_false_iff_ne.mpr c15
      have c15b1 : ((l0.length : Int) != 0) = true:=bne_iff_ne.mpr c15
      have c15b2 : ¬ (l0 = []):=fun h_ => c15 (by rw [h_];rfl)
      obtain ⟨ji16,hji16⟩ : ∃ j_ : Int,(wrap64 ((l0.length : Int) - 1)) = j_:=⟨_,rfl⟩
      replace H : (if 0 ≤ (ji16) then (if (ji16) < (l0.length : Int) then (if ((rd_T26 l0 (ji16)).f0) = 10 then (some 0) else (some 11)) else (none)) else (none)) = some r:=by (rw [hji16] at H;exact H)
      have hji16w : (IntKind.i64.wrap ((l0.length : Int) - 1)) = ji16:=(i64_w _).trans hji16
      by_cases c17 : 0 ≤ (ji16)
      ·rw [if_pos c17] at H
       have c17b0 : decide (0 ≤ (ji16)) = true:=decide_eq_true c17
       clear c17
       by_cases c18 : (ji16) < (l0.length : Int)
       ·rw [if_pos c18] at H
        have c18b0 : decide ((ji16) < (l0.length : Int)) = true:=decide_eq_true c18
        clear c18
        by_cases c19 : ((rd_T26 l0 (ji16)).f0) = 10
        ·rw [if_pos c19] at H
         have c19b0 : (((rd_T26 l0 (ji16)).f0) == 10) = true:=beq_iff_eq.mpr c19
         have c19b1 : (((rd_T26 l0 (ji16)).f0) != 10) = false:=bne_eq_false_iff_eq.mpr c19
         clear c19
         obtain rfl:=Option.some.inj H
         have p280 : 0 ≤ ((ji16) : Int):=of_decide_eq_true (by assumption)
         have q280 : (ji16) < (l0.length : Int):=of_decide_eq_true (by assumption)
         obtain ⟨ad280,A280_2,c280_2,e280,hx280_0,hx280_1,hx280_2,hl280_2,hi280_2⟩:=at_T26 HR0.out (ji16) p280 q280
         cases e280
         replace hx280_0:=(HB.out.cell (World.block_lt_of_cell? w _ hx280_0)).trans hx280_0
         replace hx280_1:=(HB.out.cell (World.block_lt_of_cell? w _ hx280_1)).trans hx280_1
         replace hx280_2:=(HB.out.cell (World.block_lt_of_cell? w _ hx280_2)).trans hx280_2
         have HR280_2:=Aside0.mk hi280_2
         have HC280_2:=Aside0.mk hl280_2
         clear hi280_2 hl280_2
         replace p280:=eq_true p280
         replace q280:=eq_true q280
         go_wp2
         go_ret
         exact ⟨by rfl,HB.out⟩
        ·rw [if_neg c19] at H
         have c19b0 : (((rd_T26 l0 (ji16)).f0) == 10) = false:=beq_eq_false_iff_ne.mpr c19
         have c19b1 : (((rd_T26 l0 (ji16)).f0) != 10) = true:=bne_iff_ne.mpr c19
         obtain rfl:=Option.some.inj H
         have p280 : 0 ≤ ((ji16) : Int):=of_decide_eq_true (by assumption)
         have q280 : (ji16) < (l0.length : Int):=of_decide_eq_true (by assumption)
         obtain ⟨ad280,A280_2,c280_2,e280,hx280_0,hx280_1,hx280_2,hl280_2,hi280_2⟩:=at_T26 HR0.out (ji16) p280 q280
         cases e280
         replace hx280_0:=(HB.out.cell (World.block_lt_of_cell? w _ hx280_0)).trans hx280_0
         replace hx280_1:=(HB.out.cell (World.block_lt_of_cell? w _ hx280_1)).trans hx280_1
         replace hx280_2:=(HB.out.cell (World.block_lt_of_cell? w _ hx280_2)).trans hx280_2
         have HR280_2:=Aside0.mk hi280_2
         have HC280_2:=Aside0.mk hl280_2
         clear hi280_2 hl280_2
         replace p280:=eq_true p280
         replace q280:=eq_true q280
         go_wp2
         go_ret
         exact ⟨by rfl,HB.out⟩
       ·rw [if_neg c18] at H
        exact absurd H (by simp)
      ·rw [if_neg c17] at H
       exact absurd H (by simp)
    ·replace c14:=Bool.eq_false_iff.mpr c14
     subst c14
     have H1 : (some 0) = some r:=by rw [if_neg (show ¬ (false = true) by decide)] at H;exact H
     clear H
     have H:=H1
     clear H1
     obtain rfl:=Option.some.inj H
     go_wp2
     go_ret
     exact ⟨by rfl,HB.out⟩
mutual
def chanceryref1_put.l0 : Nat → List (S91) → List (S91) → Bool → Int → Int → ByteArray → ByteArray → Option ((List (S91)))
 | 0,_,_,_,_,_,_,_ => none
 | k + 1,x0,x5,x6,x9,x10,x285000,x285001 => if x10 < x9 then (if x6 = true then (chanceryref1_put.j1 k x0 x5 x6 x10 x9 x10 false x285000 x285001) else (if 0 ≤ x10 then (if x10 < (x0.length : Int) then (chanceryref1_put.j1 k x0 x5 x6 x10 x9 x10 (!(Op.bytesLess (((rd_T91 x0 x10).f0).toList) x285000.toList)) x285000 x285001) else (none)) else (none))) else (if x6 = true then (some x5) else (if x5.length < 4398046511104 then (some (x5 ++ [(⟨x285000,x285001⟩ : S91)])) else (none)))
def chanceryref1_put.j1 : Nat → List (S91) → List (S91) → Bool → Int → Int → Int → Bool → ByteArray → ByteArray → Option ((List (S91)))
 | 0,_,_,_,_,_,_,_,_,_ => none
 | k + 1,x0,x5,x6,x7,x9,x10,x24,x285000,x285001 => if x24 = true then (if x5.length < 4398046511104 then ((some (x5 ++ [(⟨x285000,x285001⟩ : S91)] : List (S91))).bind fun y289 => (if 0 ≤ x7 then (if x7 < (x0.length : Int) then (if ((rd_T91 x0 x7).f0).toList = x285000.toList then (chanceryref1_put.l0 k x0 y289 true x9 (wrap64 (x10 + 1)) x285000 x285001) else (if y289.length < 4398046511104 then (chanceryref1_put.l0 k x0 (y289 ++ [(⟨(rd_T91 x0 x7).f0,(rd_T91 x0 x7).f1⟩ : S91)]) true x9 (wrap64 (x10 + 1)) x285000 x285001) else (none))) else (none)) else (none))) else (none)) else (if 0 ≤ x7 then (if x7 < (x0.length : Int) then (if ((rd_T91 x0 x7).f0).toList = x285000.toList then (chanceryref1_put.l0 k x0 x5 x6 x9 (wrap64 (x10 + 1)) x285000 x285001) else (if x5.length < 4398046511104 then (chanceryref1_put.l0 k x0 (x5 ++ [(⟨(rd_T91 x0 x7).f0,(rd_T91 x0 x7).f1⟩ : S91)]) x6 x9 (wrap64 (x10 + 1)) x285000 x285001) else (none))) else (none)) else (none))
end
def chanceryref1_put.f (k : Nat) (l0 : List (S91)) (a1_0 : ByteArray) (a1_1 : ByteArray) : Option ((List (S91))):=chanceryref1_put.l0 k l0 ([] : List (S91)) false (l0.length : Int) 0 a1_0 a1_1
set_option maxHeartbeats 8000000 in
set_option maxRecDepth 100000 in
theorem chanceryref1_put.calls (k : Nat) (A0 : Option Addr) (c0 : Nat) (l0 : List (S91)) (a1_0 : ByteArray) (a1_1 : ByteArray) (r : List (S91)) (w : World) (hr0 : Kd.C k91 w A0 l0.length l0) (hc0 : l0.length ≤ c0) (h : chanceryref1_put.f k l0 a1_0 a1_1 = some r) :
 Calls Try.prog 138 #[.slice A0 l0.length c0,.agg #[.string a1_0,.string a1_1]] w fun e w' => ∃ v0_ : Value,e = .returned (v0_) ∧ Kd.R k91 91 w' w.heap.size (fun _ => True) v0_ r ∧ Below w.heap.size w w':=by
 have hu91:=Try.underlying91
 have HR0:=Aside0.mk hr0
 have HC0:=Aside0.mk hc0
 clear hr0 hc0
 have HB:=Aside0.mk (Below.refl w.heap.size w)
 have H : (chanceryref1_put.l0 k l0 ([] : List (S91)) false (l0.length : Int) 0 a1_0 a1_1) = some r:=h
 clear h
 have H':=Aside0.mk H
 clear H
 go_enter Try.func138,Try.ntmps138
 go_wp2_with (((with_reducible refine gate_dst (N:=3) rfl ?_);refine box_event ?hg (N:=3) ?hd (cs:=#[.string a1_0,.string a1_1]) (t:=91) ?hr ?_;(case hd => rfl);(case hg => rfl);(case hr => (go_simp;done));intro gb284 hg w3 hbox hb;have n0_:=Aside0.mk (below_step (by with_reducible exact HB.out) hb);have n1_:=Aside0.mk hbox;have n2_:=Aside0.mk ((by rw [hg];exact (below_size (by with_reducible exact HB.out)) : w.heap.size ≤ gb284));have n3_:=Aside0.mk ((by rw [hg];exact (below_size (by with_reducible exact HB.out)) : w.heap.size ≤ gb284));clear HB;have HB:=n0_;have BK284:=n1_;have GW284:=n2_;have GE284:=n3_;clear n0_ n1_ n2_ n3_;clear hb hbox hg))
 repeat (go_quiet (((with_reducible refine gate_dst (N:=3) rfl ?_);refine box_event ?hg (N:=3) ?hd (cs:=#[.string a1_0,.string a1_1]) (t:=91) ?hr ?_;(case hd => rfl);(case hg => rfl);(case hr => first | (go_simp;done) | (go_simp;rfl));intro gb284 hg w3 hbox hb;have n0_:=Aside0.mk (below_step (by with_reducible repeat first | exact HB.out | apply below_alloc | apply pw_below_drewN | apply below_drew1) hb);have n1_:=Aside0.mk hbox;have n2_:=Aside0.mk ((by rw [hg];exact (below_size (by with_reducible repeat first | exact HB.out | apply below_alloc | apply pw_below_drewN | apply below_drew1)) : w.heap.size ≤ gb284));have n3_:=Aside0.mk ((by rw [hg];exact (below_size (by with_reducible repeat first | exact HB.out | apply below_alloc | apply pw_below_drewN | apply below_drew1)) : w.heap.size ≤ gb284));clear HB;have HB:=n0_;have BK284:=n1_;have GW284:=n2_;have GE284:=n3_;clear n0_ n1_ n2_ n3_;clear hb hbox hg));try go_wp2_with (((with_reducible refine gate_dst (N:=3) rfl ?_);refine box_event ?hg (N:=3) ?hd (cs:=#[.string a1_0,.string a1_1]) (t:=91) ?hr ?_;(case hd => rfl);(case hg => rfl);(case hr => first | (go_simp;done) | (go_simp;rfl));intro gb284 hg w3 hbox hb;have n0_:=Aside0.mk (below_step (by with_reducible repeat first | exact HB.out | apply below_alloc | apply pw_below_drewN | apply below_drew1) hb);have n1_:=Aside0.mk hbox;have n2_:=Aside0.mk ((by rw [hg];exact (below_size (by with_reducible repeat first | exact HB.out | apply below_alloc | apply pw_below_drewN | apply below_drew1)) : w.heap.size ≤ gb284));have n3_:=Aside0.mk ((by rw [hg];exact (below_size (by with_reducible repeat first | exact HB.out | apply below_alloc | apply pw_below_drewN | apply below_drew1)) : w.heap.size ≤ gb284));clear HB;have HB:=n0_;have BK284:=n1_;have GW284:=n2_;have GE284:=n3_;clear n0_ n1_ n2_ n3_;clear hb hbox hg)))
 go_loopg [5,6,10] k (fun kq v5 v6 v10 w' => ∃ (x5_1 : List (S91)) (x6_1 : Bool) (x10_1 : Int),v6 = .bool x6_1 ∧ v10 = .int .i64 x10_1 ∧ Aside0 (chanceryref1_put.l0 kq l0 x5_1 x6_1 (l0.length : Int) x10_1 a1_0 a1_1 = some r) ∧ Aside0 (kq ≤ k) ∧ Aside0 (Kd.R k91 91 w' w.heap.size (fun k_ => k_ ≠ gb284) v5 x5_1) ∧ Aside0 (w'.heap[gb284]? = some (.cells #[.string a1_0,.string a1_1] 91 (0,0))) ∧ Aside0 (Below w.heap.size w w'))
 case atStart => exact ⟨(([] : List (S91))),(false),(0),(by rfl),(by rfl),H',⟨Nat.le_refl _⟩,⟨by exact Kd.R_nil _ _ _ _ _⟩,⟨by exact BK284.out⟩,⟨HB.out⟩⟩
 case round =>
  clear H'
  obtain ⟨x5_1,x6_1,x10_1,rfl,rfl,HA,HK1,HO_5,BK284,HB⟩:=hrel
  cases gk with
  | zero => exact absurd HA.out (by simp [chanceryref1_put.l0])
  | succ k1 =>
   have H:=HA.out
   clear HA
   simp only [chanceryref1_put.l0] at H
   by_cases c4 : x10_1 < (l0.length : Int)
   ·rw [if_pos c4] at H
    have c4b0 : decide (x10_1 < (l0.length : Int)) = true:=decide_eq_true c4
    clear c4
    have HC5:=Aside0.mk H
    clear H
    go_upto_region 6 with (fail)
    repeat (go_quiet (fail);go_upto_region 6 with (fail))
    go_cut [24] (fun v24 wc => ∃ (kq : Nat) (x24_4 : Bool),v24 = .bool x24_4 ∧ Aside0 (chanceryref1_put.j1 kq l0 x5_1 x6_1 x10_1 (l0.length : Int) x10_1 x24_4 a1_0 a1_1 = some r) ∧ Aside0 (kq ≤ k1) ∧ Aside0 (Kd.R k91 91 wc w.heap.size (fun k_ => k_ ≠ gb284) u5 x5_1) ∧ Aside0 (wc.heap[gb284]? = some (.cells #[.string a1_0,.string a1_1] 91 (0,0))) ∧ Aside0 (Below w.heap.size w wc))
    case first =>
     have H:=HC5.out
     clear HC5
     by_cases c6 : x6_1 = true
     ·subst c6
      have H1 : (chanceryref1_put.j1 k1 l0 x5_1 true x10_1 (l0.length : Int) x10_1 false a1_0 a1_1) = some r:=by rw [if_pos rfl] at H;exact H
      clear H
      have H:=H1
      clear H1
      have H':=Aside0.mk H
      clear H
      go_wp2
      repeat (go_quiet (fail);try go_wp2)
      go_meet
      case rel => exact ⟨_,(false),(by rfl),H',⟨by have:=HK1.out;omega⟩,⟨by (with_reducible repeat (apply Kd.R_drewN));exact HO_5.out⟩,⟨by (with_reducible repeat (refine blk_drewN ?_ _));exact BK284.out⟩,⟨by repeat ((with_reducible first | exact HB.out | apply pw_below_drewN))⟩⟩
     ·replace c6:=Bool.eq_false_iff.mpr c6
      subst c6
      have H1 : (if 0 ≤ x10_1 then (if x10_1 < (l0.length : Int) then (chanceryref1_put.j1 k1 l0 x5_1 false x10_1 (l0.length : Int) x10_1 (!(Op.bytesLess (((rd_T91 l0 x10_1).f0).toList) a1_0.toList)) a1_0 a1_1) else (none)) else (none)) = some r:=by rw [if_neg (show ¬ (false = true) by decide)] at H;exact H
      clear H
      have H:=H1
      clear H1
      by_cases c7 : 0 ≤ x10_1
      ·rw [if_pos c7] at H
       have c7b0 : decide (0 ≤ x10_1) = true:=decide_eq_true c7
       clear c7
       (skip)
       by_cases c8 : x10_1 < (l0.length : Int)
       ·rw [if_pos c8] at H
        have c8b0 : decide (x10_1 < (l0.length : Int)) = true:=decide_eq_true c8
        clear c8
        have H':=Aside0.mk H
        clear H
        have p288 : 0 ≤ (x10_1 : Int):=of_decide_eq_true (by assumption)
        have q288 : x10_1 < (l0.length : Int):=of_decide_eq_true (by assumption)
        obtain ⟨ad288,e288,hx288_0,hx288_1⟩:=at_T91 HR0.out x10_1 p288 q288
        cases e288
        replace hx288_0:=(HB.out.cell (World.block_lt_of_cell? w _ hx288_0)).trans hx288_0
        replace hx288_1:=(HB.out.cell (World.block_lt_of_cell? w _ hx288_1)).trans hx288_1
        replace p288:=eq_true p288
        replace q288:=eq_true q288
        have hcz9_0 : wr.cell? ⟨gb284,0,none⟩ = some (.string a1_0):=(blk_cell BK284.out 0).trans rfl
        have hcz9_1 : wr.cell? ⟨gb284,1,none⟩ = some (.string a1_1):=(blk_cell BK284.out 1).trans rfl
        have hfz9_0:=blk_frozen BK284.out 0
        have hfz9_1:=blk_frozen BK284.out 1
        go_wp2
        repeat (go_quiet (fail);try go_wp2)
        go_meet
        case rel => exact ⟨_,(!(Op.bytesLess (((rd_T91 l0 x10_1).f0).toList) a1_0.toList)),(by rfl),H',⟨by have:=HK1.out;omega⟩,⟨by (with_reducible repeat (apply Kd.R_drewN));exact HO_5.out⟩,⟨by (with_reducible repeat (refine blk_drewN ?_ _));exact BK284.out⟩,⟨by repeat ((with_reducible first | exact HB.out | apply pw_below_drewN))⟩⟩
       ·rw [if_neg c8] at H
        exact absurd H (by simp)
      ·rw [if_neg c7] at H
       exact absurd H (by simp)
    case rest =>
     clear HC5
     try clear c4b0
     obtain ⟨kq,x24_4,rfl,HA,HJ4,HO_5,BK284,HB⟩:=hcut
     cases kq with
     | zero => exact absurd HA.out (by simp [chanceryref1_put.j1])
     | succ kj4 =>
      have H:=HA.out
      clear HA
      simp only [chanceryref1_put.j1] at H
      by_cases c10 : x24_4 = true
      ·subst c10
       have H1 : (if x5_1.length < 4398046511104 then ((some (x5_1 ++ [(⟨a1_0,a1_1⟩ : S91)] : List (S91))).bind fun y289 => (if 0 ≤ x10_1 then (if x10_1 < (l0.length : Int) then (if ((rd_T91 l0 x10_1).f0).toList = a1_0.toList then (chanceryref1_put.l0 kj4 l0 y289 true (l0.length : Int) (wrap64 (x10_1 + 1)) a1_0 a1_1) else (if y289.length < 4398046511104 then (chanceryref1_put.l0 kj4 l0 (y289 ++ [(⟨(rd_T91 l0 x10_1).f0,(rd_T91 l0 x10_1).f1⟩ : S91)]) true (l0.length : Int) (wrap64 (x10_1 + 1)) a1_0 a1_1) else (none))) else (none)) else (none))) else (none)) = some r:=by rw [if_pos rfl] at H;exact H
       clear H
       have H:=H1
       clear H1
       by_cases c11 : x5_1.length < 4398046511104
       ·rw [if_pos c11] at H
        have LMc11:=Aside0.mk c11
        clear c11
        obtain ⟨y289,hy289⟩ : ∃ y_ : List (S91),y_ = (x5_1 ++ [(⟨a1_0,a1_1⟩ : S91)]):=⟨_,rfl⟩
        replace H : (if 0 ≤ x10_1 then (if x10_1 < (l0.length : Int) then (if ((rd_T91 l0 x10_1).f0).toList = a1_0.toList then (chanceryref1_put.l0 kj4 l0 y289 true (l0.length : Int) (wrap64 (x10_1 + 1)) a1_0 a1_1) else (if y289.length < 4398046511104 then (chanceryref1_put.l0 kj4 l0 (y289 ++ [(⟨(rd_T91 l0 x10_1).f0,(rd_T91 l0 x10_1).f1⟩ : S91)]) true (l0.length : Int) (wrap64 (x10_1 + 1)) a1_0 a1_1) else (none))) else (none)) else (none)) = some r:=by (have H2_:=(Option.bind_some _ _).symm.trans H;rw [hy289];with_reducible exact H2_)
        have Ny289:=Aside0.mk hy289
        clear hy289
        by_cases c12 : 0 ≤ x10_1
        ·rw [if_pos c12] at H
         have c12b0 : decide (0 ≤ x10_1) = true:=decide_eq_true c12
         clear c12
         by_cases c13 : x10_1 < (l0.length : Int)
         ·rw [if_pos c13] at H
          have c13b0 : decide (x10_1 < (l0.length : Int)) = true:=decide_eq_true c13
          clear c13
          by_cases c14 : ((rd_T91 l0 x10_1).f0).toList = a1_0.toList
          ·rw [if_pos c14] at H
           have c14b0 : (((rd_T91 l0 x10_1).f0).toList == a1_0.toList) = true:=beq_iff_eq.mpr c14
           have c14b1 : (((rd_T91 l0 x10_1).f0).toList != a1_0.toList) = false:=bne_eq_false_iff_eq.mpr c14
           clear c14
           have H':=Aside0.mk H
           clear H
           have hcz15_0 : wc.cell? ⟨gb284,0,none⟩ = some (.string a1_0):=(blk_cell BK284.out 0).trans rfl
           have hcz15_1 : wc.cell? ⟨gb284,1,none⟩ = some (.string a1_1):=(blk_cell BK284.out 1).trans rfl
           have hfz15_0:=blk_frozen BK284.out 0
           have hfz15_1:=blk_frozen BK284.out 1
           go_wp2_with (((with_reducible refine gate_builtin (b:=.append) (xs:=#[.tmp 25,.tmp 27]) rfl ?_);at_builtin;refine Kd.R_append k91 (w0:=w) w.heap.size rfl (.tmp 25) (.tmp 27) 24 91 (.agg #[(.string ⟨#[]⟩),(.string ⟨#[]⟩)]) 32 rfl Try.underlying24 info91 rfl (by decide) (by omega) u5 x5_1 (⟨a1_0,a1_1⟩ : S91) [.string a1_0,.string a1_1] (fun k_ => k_ ≠ gb284) (fun _ => False) rfl rfl ?aP (fun _ hk => hk.elim) ?aF ?aO ?aB ?aS ?aL ?_;(case aP => exact k91_mkM _ _ _ (⟨a1_0,a1_1⟩ : S91));(case aB => exact HB.out);(case aF => exact (fun k_ hk => Kd.freshB BK284.out k_ hk));(case aO => exact HO_5.out);(case aS => exact (below_size HB.out));(case aL => have:=LMc11.out;omega);intro v290 w16 ho hb hg hat;rw [← Ny289.out] at ho;have n0_:=Aside0.mk (blk_grown BK284.out hg (Kd.R_away HO_5.out (fun _ hk => hk)));have n1_:=Aside0.mk hb;have n2_:=Aside0.mk ho;clear BK284;clear HB;clear HO_5;have BK284:=n0_;have HB:=n1_;have HO291:=n2_;clear n0_ n1_ n2_;clear ho hb hg hat;have p292 : 0 ≤ (x10_1 : Int):=of_decide_eq_true (by assumption);have q292 : x10_1 < (l0.length : Int):=of_decide_eq_true (by assumption);obtain ⟨ad292,e292,hx292_0,hx292_1⟩:=at_T91 HR0.out x10_1 p292 q292;cases e292;replace hx292_0:=(HB.out.cell (World.block_lt_of_cell? w _ hx292_0)).trans hx292_0;replace hx292_1:=(HB.out.cell (World.block_lt_of_cell? w _ hx292_1)).trans hx292_1;replace p292:=eq_true p292;replace q292:=eq_true q292;have hcz17_0 : w16.cell? ⟨gb284,0,none⟩ = some (.string a1_0):=(blk_cell BK284.out 0).trans rfl;have hcz17_1 : w16.cell? ⟨gb284,1,none⟩ = some (.string a1_1):=(blk_cell BK284.out 1).trans rfl;have hfz17_0:=blk_frozen BK284.out 0;have hfz17_1:=blk_frozen BK284.out 1))
           repeat (go_quiet (((with_reducible refine gate_builtin (b:=.append) (xs:=#[.tmp 25,.tmp 27]) rfl ?_);at_builtin;refine Kd.R_append k91 (w0:=w) w.heap.size rfl (.tmp 25) (.tmp 27) 24 91 (.agg #[(.string ⟨#[]⟩),(.string ⟨#[]⟩)]) 32 rfl Try.underlying24 info91 rfl (by decide) (by omega) u5 x5_1 (⟨a1_0,a1_1⟩ : S91) [.string a1_0,.string a1_1] (fun k_ => k_ ≠ gb284) (fun _ => False) rfl rfl ?aP (fun _ hk => hk.elim) ?aF ?aO ?aB ?aS ?aL ?_;(case aP => exact k91_mkM _ _ _ (⟨a1_0,a1_1⟩ : S91));(case aB => exact (by repeat (first | (with_reducible first | exact HB.out | apply below_alloc | apply pw_below_drewN | apply below_drew1 | refine below_set ?_ GE284.out) | exact HB.out)));(case aF => exact (fun k_ hk => Kd.freshB BK284.out k_ hk));(case aO => exact HO_5.out);(case aS => exact (below_size (by repeat (first | (with_reducible first | exact HB.out | apply below_alloc | apply pw_below_drewN | apply below_drew1 | refine below_set ?_ GE284.out) | exact HB.out))));(case aL => have:=LMc11.out;omega);intro v290 w16 ho hb hg hat;rw [← Ny289.out] at ho;have n0_:=Aside0.mk (blk_grown BK284.out hg (Kd.R_away HO_5.out (fun _ hk => hk)));have n1_:=Aside0.mk hb;have n2_:=Aside0.mk ho;clear BK284;clear HB;clear HO_5;have BK284:=n0_;have HB:=n1_;have HO291:=n2_;clear n0_ n1_ n2_;clear ho hb hg hat;have p292 : 0 ≤ (x10_1 : Int):=of_decide_eq_true (by assumption);have q292 : x10_1 < (l0.length : Int):=of_decide_eq_true (by assumption);obtain ⟨ad292,e292,hx292_0,hx292_1⟩:=at_T91 HR0.out x10_1 p292 q292;cases e292;replace hx292_0:=(HB.out.cell (World.block_lt_of_cell? w _ hx292_0)).trans hx292_0;replace hx292_1:=(HB.out.cell (World.block_lt_of_cell? w _ hx292_1)).trans hx292_1;replace p292:=eq_true p292;replace q292:=eq_true q292;have hcz17_0 : w16.cell? ⟨gb284,0,none⟩ = some (.string a1_0):=(blk_cell BK284.out 0).trans rfl;have hcz17_1 : w16.cell? ⟨gb284,1,none⟩ = some (.string a1_1):=(blk_cell BK284.out 1).trans rfl;have hfz17_0:=blk_frozen BK284.out 0;have hfz17_1:=blk_frozen BK284.out 1));try go_wp2_with (((with_reducible refine gate_builtin (b:=.append) (xs:=#[.tmp 25,.tmp 27]) rfl ?_);at_builtin;refine Kd.R_append k91 (w0:=w) w.heap.size rfl (.tmp 25) (.tmp 27) 24 91 (.agg #[(.string ⟨#[]⟩),(.string ⟨#[]⟩)]) 32 rfl Try.underlying24 info91 rfl (by decide) (by omega) u5 x5_1 (⟨a1_0,a1_1⟩ : S91) [.string a1_0,.string a1_1] (fun k_ => k_ ≠ gb284) (fun _ => False) rfl rfl ?aP (fun _ hk => hk.elim) ?aF ?aO ?aB ?aS ?aL ?_;(case aP => exact k91_mkM _ _ _ (⟨a1_0,a1_1⟩ : S91));(case aB => exact (by repeat (first | (with_reducible first | exact HB.out | apply below_alloc | apply pw_below_drewN | apply below_drew1 | refine below_set ?_ GE284.out) | exact HB.out)));(case aF => exact (fun k_ hk => Kd.freshB BK284.out k_ hk));(case aO => exact HO_5.out);(case aS => exact (below_size (by repeat (first | (with_reducible first | exact HB.out | apply below_alloc | apply pw_below_drewN | apply below_drew1 | refine below_set ?_ GE284.out) | exact HB.out))));(case aL => have:=LMc11.out;omega);intro v290 w16 ho hb hg hat;rw [← Ny289.out] at ho;have n0_:=Aside0.mk (blk_grown BK284.out hg (Kd.R_away HO_5.out (fun _ hk => hk)));have n1_:=Aside0.mk hb;have n2_:=Aside0.mk ho;clear BK284;clear HB;clear HO_5;have BK284:=n0_;have HB:=n1_;have HO291:=n2_;clear n0_ n1_ n2_;clear ho hb hg hat;have p292 : 0 ≤ (x10_1 : Int):=of_decide_eq_true (by assumption);have q292 : x10_1 < (l0.length : Int):=of_decide_eq_true (by assumption);obtain ⟨ad292,e292,hx292_0,hx292_1⟩:=at_T91 HR0.out x10_1 p292 q292;cases e292;replace hx292_0:=(HB.out.cell (World.block_lt_of_cell? w _ hx292_0)).trans hx292_0;replace hx292_1:=(HB.out.cell (World.block_lt_of_cell? w _ hx292_1)).trans hx292_1;replace p292:=eq_true p292;replace q292:=eq_true q292;have hcz17_0 : w16.cell? ⟨gb284,0,none⟩ = some (.string a1_0):=(blk_cell BK284.out 0).trans rfl;have hcz17_1 : w16.cell? ⟨gb284,1,none⟩ = some (.string a1_1):=(blk_cell BK284.out 1).trans rfl;have hfz17_0:=blk_frozen BK284.out 0;have hfz17_1:=blk_frozen BK284.out 1)))
           go_roundg kj4
           case measure => have:=HK1.out;have:=HJ4.out;omega
           case rel => exact ⟨(y289),(true),(wrap64 (x10_1 + 1)),(by rfl),(by rfl),H',⟨by have:=HK1.out;have:=HJ4.out;omega⟩,⟨by (with_reducible repeat (apply Kd.R_drewN));exact HO291.out⟩,⟨by (with_reducible repeat (refine blk_drewN ?_ _));exact BK284.out⟩,⟨by repeat ((with_reducible first | exact HB.out | apply pw_below_drewN))⟩⟩
          ·rw [if_neg c14] at H
           have c14b0 : (((rd_T91 l0 x10_1).f0).toList == a1_0.toList) = false:=beq_eq_false_iff_ne.mpr c14
           have c14b1 : (((rd_T91 l0 x10_1).f0).toList != a1_0.toList) = true:=bne_iff_ne.mpr c14
           by_cases c18 : y289.length < 4398046511104
           ·rw [if_pos c18] at H
            have LMc18:=Aside0.mk c18
            clear c18
            obtain ⟨y294,hy294⟩ : ∃ y_ : List (S91),y_ = (y289 ++ [(⟨(rd_T91 l0 x10_1).f0,(rd_T91 l0 x10_1).f1⟩ : S91)]):=⟨_,rfl⟩
            replace H : (chanceryref1_put.l0 kj4 l0 y294 true (l0.length : Int) (wrap64 (x10_1 + 1)) a1_0 a1_1) = some r:=by (rw [hy294];with_reducible exact H)
            have Ny294:=Aside0.mk hy294
            clear hy294
            have H':=Aside0.mk H
            clear H
            have hcz19_0 : wc.cell? ⟨gb284,0,none⟩ = some (.string a1_0):=(blk_cell BK284.out 0).trans rfl
            have hcz19_1 : wc.cell? ⟨gb284,1,none⟩ = some (.string a1_1):=(blk_cell BK284.out 1).trans rfl
            have hfz19_0:=blk_frozen BK284.out 0
            have hfz19_1:=blk_frozen BK284.out 1
            go_wp2_with (((with_reducible refine gate_builtin (b:=.append) (xs:=#[.tmp 25,.tmp 27]) rfl ?_);at_builtin;refine Kd.R_append k91 (w0:=w) w.heap.size rfl (.tmp 25) (.tmp 27) 24 91 (.agg #[(.string ⟨#[]⟩),(.string ⟨#[]⟩)]) 32 rfl Try.underlying24 info91 rfl (by decide) (by omega) u5 x5_1 (⟨a1_0,a1_1⟩ : S91) [.string a1_0,.string a1_1] (fun k_ => k_ ≠ gb284) (fun _ => False) rfl rfl ?aP (fun _ hk => hk.elim) ?aF ?aO ?aB ?aS ?aL ?_;(case aP => exact k91_mkM _ _ _ (⟨a1_0,a1_1⟩ : S91));(case aB => exact HB.out);(case aF => exact (fun k_ hk => Kd.freshB BK284.out k_ hk));(case aO => exact HO_5.out);(case aS => exact (below_size HB.out));(case aL => have:=LMc11.out;omega);intro v290 w20 ho hb hg hat;rw [← Ny289.out] at ho;have n0_:=Aside0.mk (blk_grown BK284.out hg (Kd.R_away HO_5.out (fun _ hk => hk)));have n1_:=Aside0.mk hb;have n2_:=Aside0.mk ho;clear BK284;clear HB;clear HO_5;have BK284:=n0_;have HB:=n1_;have HO291:=n2_;clear n0_ n1_ n2_;clear ho hb hg hat;have p292 : 0 ≤ (x10_1 : Int):=of_decide_eq_true (by assumption);have q292 : x10_1 < (l0.length : Int):=of_decide_eq_true (by assumption);obtain ⟨ad292,e292,hx292_0,hx292_1⟩:=at_T91 HR0.out x10_1 p292 q292;cases e292;replace hx292_0:=(HB.out.cell (World.block_lt_of_cell? w _ hx292_0)).trans hx292_0;replace hx292_1:=(HB.out.cell (World.block_lt_of_cell? w _ hx292_1)).trans hx292_1;replace p292:=eq_true p292;replace q292:=eq_true q292;have hcz21_0 : w20.cell? ⟨gb284,0,none⟩ = some (.string a1_0):=(blk_cell BK284.out 0).trans rfl;have hcz21_1 : w20.cell? ⟨gb284,1,none⟩ = some (.string a1_1):=(blk_cell BK284.out 1).trans rfl;have hfz21_0:=blk_frozen BK284.out 0;have hfz21_1:=blk_frozen BK284.out 1;have p293 : 0 ≤ (x10_1 : Int):=of_decide_eq_true (by assumption);have q293 : x10_1 < (l0.length : Int):=of_decide_eq_true (by assumption);obtain ⟨ad293,e293,hx293_0,hx293_1⟩:=at_T91 HR0.out x10_1 p293 q293;obtain rfl : ad292 = ad293:=(by injection e293);replace hx293_0:=(HB.out.cell (World.block_lt_of_cell? w _ hx293_0)).trans hx293_0;replace hx293_1:=(HB.out.cell (World.block_lt_of_cell? w _ hx293_1)).trans hx293_1;replace p293:=eq_true p293;replace q293:=eq_true q293))
            repeat (go_quiet (first | ((with_reducible refine gate_builtin (b:=.append) (xs:=#[.tmp 25,.tmp 27]) rfl ?_);at_builtin;refine Kd.R_append k91 (w0:=w) w.heap.size rfl (.tmp 25) (.tmp 27) 24 91 (.agg #[(.string ⟨#[]⟩),(.string ⟨#[]⟩)]) 32 rfl Try.underlying24 info91 rfl (by decide) (by omega) u5 x5_1 (⟨a1_0,a1_1⟩ : S91) [.string a1_0,.string a1_1] (fun k_ => k_ ≠ gb284) (fun _ => False) rfl rfl ?aP (fun _ hk => hk.elim) ?aF ?aO ?aB ?aS ?aL ?_;(case aP => exact k91_mkM _ _ _ (⟨a1_0,a1_1⟩ : S91));(case aB => exact (by repeat (first | (with_reducible first | exact HB.out | apply below_alloc | apply pw_below_drewN | apply below_drew1 | refine below_set ?_ GE284.out) | exact HB.out)));(case aF => exact (fun k_ hk => Kd.freshB BK284.out k_ hk));(case aO => exact HO_5.out);(case aS => exact (below_size (by repeat (first | (with_reducible first | exact HB.out | apply below_alloc | apply pw_below_drewN | apply below_drew1 | refine below_set ?_ GE284.out) | exact HB.out))));(case aL => have:=LMc11.out;omega);intro v290 w20 ho hb hg hat;rw [← Ny289.out] at ho;have n0_:=Aside0.mk (blk_grown BK284.out hg (Kd.R_away HO_5.out (fun _ hk => hk)));have n1_:=Aside0.mk hb;have n2_:=Aside0.mk ho;clear BK284;clear HB;clear HO_5;have BK284:=n0_;have HB:=n1_;have HO291:=n2_;clear n0_ n1_ n2_;clear ho hb hg hat;have p292 : 0 ≤ (x10_1 : Int):=of_decide_eq_true (by assumption);have q292 : x10_1 < (l0.length : Int):=of_decide_eq_true (by assumption);obtain ⟨ad292,e292,hx292_0,hx292_1⟩:=at_T91 HR0.out x10_1 p292 q292;cases e292;replace hx292_0:=(HB.out.cell (World.block_lt_of_cell? w _ hx292_0)).trans hx292_0;replace hx292_1:=(HB.out.cell (World.block_lt_of_cell? w _ hx292_1)).trans hx292_1;replace p292:=eq_true p292;replace q292:=eq_true q292;have hcz21_0 : w20.cell? ⟨gb284,0,none⟩ = some (.string a1_0):=(blk_cell BK284.out 0).trans rfl;have hcz21_1 : w20.cell? ⟨gb284,1,none⟩ = some (.string a1_1):=(blk_cell BK284.out 1).trans rfl;have hfz21_0:=blk_frozen BK284.out 0;have hfz21_1:=blk_frozen BK284.out 1;have p293 : 0 ≤ (x10_1 : Int):=of_decide_eq_true (by assumption);have q293 : x10_1 < (l0.length : Int):=of_decide_eq_true (by assumption);obtain ⟨ad293,e293,hx293_0,hx293_1⟩:=at_T91 HR0.out x10_1 p293 q293;obtain rfl : ad292 = ad293:=(by injection e293);replace hx293_0:=(HB.out.cell (World.block_lt_of_cell? w _ hx293_0)).trans hx293_0;replace hx293_1:=(HB.out.cell (World.block_lt_of_cell? w _ hx293_1)).trans hx293_1;replace p293:=eq_true p293;replace q293:=eq_true q293) | ((with_reducible refine gate_builtin (b:=.append) (xs:=#[.tmp 37,.tmp 42]) rfl ?_);at_builtin;refine Kd.R_append k91 (w0:=w) w.heap.size rfl (.tmp 37) (.tmp 42) 24 91 (.agg #[(.string ⟨#[]⟩),(.string ⟨#[]⟩)]) 32 rfl Try.underlying24 info91 rfl (by decide) (by omega) v290 y289 (⟨(rd_T91 l0 x10_1).f0,(rd_T91 l0 x10_1).f1⟩ : S91) [.string ((rd_T91 l0 x10_1).f0),.string ((rd_T91 l0 x10_1).f1)] (fun k_ => k_ ≠ gb284) (fun _ => False) rfl rfl ?aP (fun _ hk => hk.elim) ?aF ?aO ?aB ?aS ?aL ?_;(case aP => exact k91_mkM _ _ _ (⟨(rd_T91 l0 x10_1).f0,(rd_T91 l0 x10_1).f1⟩ : S91));(case aB => exact (by repeat (first | (with_reducible first | exact HB.out | apply below_alloc | apply pw_below_drewN | apply below_drew1 | refine below_set ?_ GE284.out) | exact HB.out)));(case aF => exact (fun k_ hk => Kd.freshB BK284.out k_ hk));(case aO => exact HO291.out);(case aS => exact (below_size (by repeat (first | (with_reducible first | exact HB.out | apply below_alloc | apply pw_below_drewN | apply below_drew1 | refine below_set ?_ GE284.out) | exact HB.out))));(case aL => have:=LMc18.out;omega);intro v295 w22 ho hb hg hat;rw [← Ny294.out] at ho;have n0_:=Aside0.mk (blk_grown BK284.out hg (Kd.R_away HO291.out (fun _ hk => hk)));have n1_:=Aside0.mk hb;have n2_:=Aside0.mk ho;clear BK284;clear HB;clear HO291;have BK284:=n0_;have HB:=n1_;have HO296:=n2_;clear n0_ n1_ n2_;clear ho hb hg hat));try go_wp2_with (((with_reducible refine gate_builtin (b:=.append) (xs:=#[.tmp 37,.tmp 42]) rfl ?_);at_builtin;refine Kd.R_append k91 (w0:=w) w.heap.size rfl (.tmp 37) (.tmp 42) 24 91 (.agg #[(.string ⟨#[]⟩),(.string ⟨#[]⟩)]) 32 rfl Try.underlying24 info91 rfl (by decide) (by omega) v290 y289 (⟨(rd_T91 l0 x10_1).f0,(rd_T91 l0 x10_1).f1⟩ : S91) [.string ((rd_T91 l0 x10_1).f0),.string ((rd_T91 l0 x10_1).f1)] (fun k_ => k_ ≠ gb284) (fun _ => False) rfl rfl ?aP (fun _ hk => hk.elim) ?aF ?aO ?aB ?aS ?aL ?_;(case aP => exact k91_mkM _ _ _ (⟨(rd_T91 l0 x10_1).f0,(rd_T91 l0 x10_1).f1⟩ : S91));(case aB => exact (by repeat ((with_reducible first | exact HB.out | apply pw_below_drewN))));(case aF => exact (fun k_ hk => Kd.freshB (g:=gb284) (o:=.cells #[.string a1_0,.string a1_1] 91 (0,0)) (by (with_reducible repeat (refine blk_drewN ?_ _));exact BK284.out) k_ hk));(case aO => exact (by (with_reducible repeat (apply Kd.R_drewN));exact HO291.out));(case aS => exact (below_size (by repeat ((with_reducible first | exact HB.out | apply pw_below_drewN)))));(case aL => have:=LMc18.out;omega);intro v295 w22 ho hb hg hat;rw [← Ny294.out] at ho;have n0_:=Aside0.mk (blk_grown (g:=gb284) (o:=.cells #[.string a1_0,.string a1_1] 91 (0,0)) (by (with_reducible repeat (refine blk_drewN ?_ _));exact BK284.out) hg (Kd.R_away HO291.out (fun _ hk => hk)));have n1_:=Aside0.mk hb;have n2_:=Aside0.mk ho;clear BK284;clear HB;clear HO291;have BK284:=n0_;have HB:=n1_;have HO296:=n2_;clear n0_ n1_ n2_;clear ho hb hg hat)))
            go_roundg kj4
            case measure => have:=HK1.out;have:=HJ4.out;omega
            case rel => exact ⟨(y294),(true),(wrap64 (x10_1 + 1)),(by rfl),(by rfl),H',⟨by have:=HK1.out;have:=HJ4.out;omega⟩,⟨by exact HO296.out⟩,⟨by exact BK284.out⟩,⟨HB.out⟩⟩
           ·rw [if_neg c18] at H
            exact absurd H (by simp)
         ·rw [if_neg c13] at H
          exact absurd H (by simp)
        ·rw [if_neg c12] at H
         exact absurd H (by simp)
       ·rw [if_neg c11] at H
        exact absurd H (by simp)
      ·replace c10:=Bool.eq_false_iff.mpr c10
       subst c10
       have H1 : (if 0 ≤ x10_1 then (if x10_1 < (l0.length : Int) then (if ((rd_T91 l0 x10_1).f0).toList = a1_0.toList then (chanceryref1_put.l0 kj4 l0 x5_1 x6_1 (l0.length : Int) (wrap64 (x10_1 + 1)) a1_0 a1_1) else (if x5_1.length < 4398046511104 then (chanceryref1_put.l0 kj4 l0 (x5_1 ++ [(⟨(rd_T91 l0 x10_1).f0,(rd_T91 l0 x10_1).f1⟩ : S91)]) x6_1 (l0.length : Int) (wrap64 (x10_1 + 1)) a1_0 a1_1) else (none))) else (none)) else (none)) = some r:=by rw [if_neg (show ¬ (false = true) by decide)] at H;exact H
       clear H
       have H:=H1
       clear H1
       by_cases c23 : 0 ≤ x10_1
       ·rw [if_pos c23] at H
        have c23b0 : decide (0 ≤ x10_1) = true:=decide_eq_true c23
        clear c23
        by_cases c24 : x10_1 < (l0.length : Int)
        ·rw [if_pos c24] at H
         have c24b0 : decide (x10_1 < (l0.length : Int)) = true:=decide_eq_true c24
         clear c24
         by_cases c25 : ((rd_T91 l0 x10_1).f0).toList = a1_0.toList
         ·rw [if_pos c25] at H
          have c25b0 : (((rd_T91 l0 x10_1).f0).toList == a1_0.toList) = true:=beq_iff_eq.mpr c25
          have c25b1 : (((rd_T91 l0 x10_1).f0).toList != a1_0.toList) = false:=bne_eq_false_iff_eq.mpr c25
          clear c25
          have H':=Aside0.mk H
          clear H
          have p297 : 0 ≤ (x10_1 : Int):=of_decide_eq_true (by assumption)
          have q297 : x10_1 < (l0.length : Int):=of_decide_eq_true (by assumption)
          obtain ⟨ad297,e297,hx297_0,hx297_1⟩:=at_T91 HR0.out x10_1 p297 q297
          cases e297
          replace hx297_0:=(HB.out.cell (World.block_lt_of_cell? w _ hx297_0)).trans hx297_0
          replace hx297_1:=(HB.out.cell (World.block_lt_of_cell? w _ hx297_1)).trans hx297_1
          replace p297:=eq_true p297
          replace q297:=eq_true q297
          have hcz26_0 : wc.cell? ⟨gb284,0,none⟩ = some (.string a1_0):=(blk_cell BK284.out 0).trans rfl
          have hcz26_1 : wc.cell? ⟨gb284,1,none⟩ = some (.string a1_1):=(blk_cell BK284.out 1).trans rfl
          have hfz26_0:=blk_frozen BK284.out 0
          have hfz26_1:=blk_frozen BK284.out 1
          go_wp2
          repeat (go_quiet (fail);try go_wp2)
          go_roundg kj4
          case measure => have:=HK1.out;have:=HJ4.out;omega
          case rel => exact ⟨(x5_1),(x6_1),(wrap64 (x10_1 + 1)),(by rfl),(by rfl),H',⟨by have:=HK1.out;have:=HJ4.out;omega⟩,⟨by (with_reducible repeat (apply Kd.R_drewN));exact HO_5.out⟩,⟨by (with_reducible repeat (refine blk_drewN ?_ _));exact BK284.out⟩,⟨by repeat ((with_reducible first | exact HB.out | apply pw_below_drewN))⟩⟩
         ·rw [if_neg c25] at H
          have c25b0 : (((rd_T91 l0 x10_1).f0).toList == a1_0.toList) = false:=beq_eq_false_iff_ne.mpr c25
          have c25b1 : (((rd_T91 l0 x10_1).f0).toList != a1_0.toList) = true:=bne_iff_ne.mpr c25
          by_cases c27 : x5_1.length < 4398046511104
          ·rw [if_pos c27] at H
           have LMc27:=Aside0.mk c27
           clear c27
           obtain ⟨y299,hy299⟩ : ∃ y_ : List (S91),y_ = (x5_1 ++ [(⟨(rd_T91 l0 x10_1).f0,(rd_T91 l0 x10_1).f1⟩ : S91)]):=⟨_,rfl⟩
           replace H : (chanceryref1_put.l0 kj4 l0 y299 x6_1 (l0.length : Int) (wrap64 (x10_1 + 1)) a1_0 a1_1) = some r:=by (rw [hy299];with_reducible exact H)
           have Ny299:=Aside0.mk hy299
           clear hy299
           have H':=Aside0.mk H
           clear H
           have p297 : 0 ≤ (x10_1 : Int):=of_decide_eq_true (by assumption)
           have q297 : x10_1 < (l0.length : Int):=of_decide_eq_true (by assumption)
           obtain ⟨ad297,e297,hx297_0,hx297_1⟩:=at_T91 HR0.out x10_1 p297 q297
           cases e297
           replace hx297_0:=(HB.out.cell (World.block_lt_of_cell? w _ hx297_0)).trans hx297_0
           replace hx297_1:=(HB.out.cell (World.block_lt_of_cell? w _ hx297_1)).trans hx297_1
           replace p297:=eq_true p297
           replace q297:=eq_true q297
           have hcz28_0 : wc.cell? ⟨gb284,0,none⟩ = some (.string a1_0):=(blk_cell BK284.out 0).trans rfl
           have hcz28_1 : wc.cell? ⟨gb284,1,none⟩ = some (.string a1_1):=(blk_cell BK284.out 1).trans rfl
           have hfz28_0:=blk_frozen BK284.out 0
           have hfz28_1:=blk_frozen BK284.out 1
           have p298 : 0 ≤ (x10_1 : Int):=of_decide_eq_true (by assumption)
           have q298 : x10_1 < (l0.length : Int):=of_decide_eq_true (by assumption)
           obtain ⟨ad298,e298,hx298_0,hx298_1⟩:=at_T91 HR0.out x10_1 p298 q298
           obtain rfl : ad297 = ad298:=(by injection e298)
           replace hx298_0:=(HB.out.cell (World.block_lt_of_cell? w _ hx298_0)).trans hx298_0
           replace hx298_1:=(HB.out.cell (World.block_lt_of_cell? w _ hx298_1)).trans hx298_1
           replace p298:=eq_true p298
           replace q298:=eq_true q298
           go_wp2_with (((with_reducible refine gate_builtin (b:=.append) (xs:=#[.tmp 37,.tmp 42]) rfl ?_);at_builtin;refine Kd.R_append k91 (w0:=w) w.heap.size rfl (.tmp 37) (.tmp 42) 24 91 (.agg #[(.string ⟨#[]⟩),(.string ⟨#[]⟩)]) 32 rfl Try.underlying24 info91 rfl (by decide) (by omega) u5 x5_1 (⟨(rd_T91 l0 x10_1).f0,(rd_T91 l0 x10_1).f1⟩ : S91) [.string ((rd_T91 l0 x10_1).f0),.string ((rd_T91 l0 x10_1).f1)] (fun k_ => k_ ≠ gb284) (fun _ => False) rfl rfl ?aP (fun _ hk => hk.elim) ?aF ?aO ?aB ?aS ?aL ?_;(case aP => exact k91_mkM _ _ _ (⟨(rd_T91 l0 x10_1).f0,(rd_T91 l0 x10_1).f1⟩ : S91));(case aB => exact (by repeat (first | (with_reducible first | exact HB.out | apply below_alloc | apply pw_below_drewN | apply below_drew1 | refine below_set ?_ GE284.out) | exact HB.out)));(case aF => exact (fun k_ hk => Kd.freshB BK284.out k_ hk));(case aO => exact HO_5.out);(case aS => exact (below_size (by repeat (first | (with_reducible first | exact HB.out | apply below_alloc | apply pw_below_drewN | apply below_drew1 | refine below_set ?_ GE284.out) | exact HB.out))));(case aL => have:=LMc27.out;omega);intro v300 w29 ho hb hg hat;rw [← Ny299.out] at ho;have n0_:=Aside0.mk (blk_grown BK284.out hg (Kd.R_away HO_5.out (fun _ hk => hk)));have n1_:=Aside0.mk hb;have n2_:=Aside0.mk ho;clear BK284;clear HB;clear HO_5;have BK284:=n0_;have HB:=n1_;have HO301:=n2_;clear n0_ n1_ n2_;clear ho hb hg hat))
           repeat (go_quiet (((with_reducible refine gate_builtin (b:=.append) (xs:=#[.tmp 37,.tmp 42]) rfl ?_);at_builtin;refine Kd.R_append k91 (w0:=w) w.heap.size rfl (.tmp 37) (.tmp 42) 24 91 (.agg #[(.string ⟨#[]⟩),(.string ⟨#[]⟩)]) 32 rfl Try.underlying24 info91 rfl (by decide) (by omega) u5 x5_1 (⟨(rd_T91 l0 x10_1).f0,(rd_T91 l0 x10_1).f1⟩ : S91) [.string ((rd_T91 l0 x10_1).f0),.string ((rd_T91 l0 x10_1).f1)] (fun k_ => k_ ≠ gb284) (fun _ => False) rfl rfl ?aP (fun _ hk => hk.elim) ?aF ?aO ?aB ?aS ?aL ?_;(case aP => exact k91_mkM _ _ _ (⟨(rd_T91 l0 x10_1).f0,(rd_T91 l0 x10_1).f1⟩ : S91));(case aB => exact (by repeat (first | (with_reducible first | exact HB.out | apply below_alloc | apply pw_below_drewN | apply below_drew1 | refine below_set ?_ GE284.out) | exact HB.out)));(case aF => exact (fun k_ hk => Kd.freshB BK284.out k_ hk));(case aO => exact HO_5.out);(case aS => exact (below_size (by repeat (first | (with_reducible first | exact HB.out | apply below_alloc | apply pw_below_drewN | apply below_drew1 | refine below_set ?_ GE284.out) | exact HB.out))));(case aL => have:=LMc27.out;omega);intro v300 w29 ho hb hg hat;rw [← Ny299.out] at ho;have n0_:=Aside0.mk (blk_grown BK284.out hg (Kd.R_away HO_5.out (fun _ hk => hk)));have n1_:=Aside0.mk hb;have n2_:=Aside0.mk ho;clear BK284;clear HB;clear HO_5;have BK284:=n0_;have HB:=n1_;have HO301:=n2_;clear n0_ n1_ n2_;clear ho hb hg hat));try go_wp2_with (((with_reducible refine gate_builtin (b:=.append) (xs:=#[.tmp 37,.tmp 42]) rfl ?_);at_builtin;refine Kd.R_append k91 (w0:=w) w.heap.size rfl (.tmp 37) (.tmp 42) 24 91 (.agg #[(.string ⟨#[]⟩),(.string ⟨#[]⟩)]) 32 rfl Try.underlying24 info91 rfl (by decide) (by omega) u5 x5_1 (⟨(rd_T91 l0 x10_1).f0,(rd_T91 l0 x10_1).f1⟩ : S91) [.string ((rd_T91 l0 x10_1).f0),.string ((rd_T91 l0 x10_1).f1)] (fun k_ => k_ ≠ gb284) (fun _ => False) rfl rfl ?aP (fun _ hk => hk.elim) ?aF ?aO ?aB ?aS ?aL ?_;(case aP => exact k91_mkM _ _ _ (⟨(rd_T91 l0 x10_1).f0,(rd_T91 l0 x10_1).f1⟩ : S91));(case aB => exact (by repeat ((with_reducible first | exact HB.out | apply pw_below_drewN))));(case aF => exact (fun k_ hk => Kd.freshB (g:=gb284) (o:=.cells #[.string a1_0,.string a1_1] 91 (0,0)) (by (with_reducible repeat (refine blk_drewN ?_ _));exact BK284.out) k_ hk));(case aO => exact (by (with_reducible repeat (apply Kd.R_drewN));exact HO_5.out));(case aS => exact (below_size (by repeat ((with_reducible first | exact HB.out | apply pw_below_drewN)))));(case aL => have:=LMc27.out;omega);intro v300 w29 ho hb hg hat;rw [← Ny299.out] at ho;have n0_:=Aside0.mk (blk_grown (g:=gb284) (o:=.cells #[.string a1_0,.string a1_1] 91 (0,0)) (by (with_reducible repeat (refine blk_drewN ?_ _));exact BK284.out) hg (Kd.R_away HO_5.out (fun _ hk => hk)));have n1_:=Aside0.mk hb;have n2_:=Aside0.mk ho;clear BK284;clear HB;clear HO_5;have BK284:=n0_;have HB:=n1_;have HO301:=n2_;clear n0_ n1_ n2_;clear ho hb hg hat)))
           go_roundg kj4
           case measure => have:=HK1.out;have:=HJ4.out;omega
           case rel => exact ⟨(y299),(x6_1),(wrap64 (x10_1 + 1)),(by rfl),(by rfl),H',⟨by have:=HK1.out;have:=HJ4.out;omega⟩,⟨by exact HO301.out⟩,⟨by exact BK284.out⟩,⟨HB.out⟩⟩
          ·rw [if_neg c27] at H
           exact absurd H (by simp)
        ·rw [if_neg c24] at H
         exact absurd H (by simp)
       ·rw [if_neg c23] at H
        exact absurd H (by simp)
   ·rw [if_neg c4] at H
    have c4b0 : decide (x10_1 < (l0.length : Int)) = false:=decide_eq_false c4
    clear c4
    by_cases c30 : x6_1 = true
    ·subst c30
     have H1 : (some x5_1) = some r:=by rw [if_pos rfl] at H;exact H
     clear H
     have H:=H1
     clear H1
     obtain rfl:=Option.some.inj H
     go_wp2
     repeat (go_quiet (fail);try go_wp2)
     go_ret
     exact ⟨_,by rfl,by exact Kd.R_mono HO_5.out (fun _ hk => trivial),HB.out⟩
    ·replace c30:=Bool.eq_false_iff.mpr c30
     subst c30
     have H1 : (if x5_1.length < 4398046511104 then (some (x5_1 ++ [(⟨a1_0,a1_1⟩ : S91)])) else (none)) = some r:=by rw [if_neg (show ¬ (false = true) by decide)] at H;exact H
     clear H
     have H:=H1
     clear H1
     by_cases c31 : x5_1.length < 4398046511104
     ·rw [if_pos c31] at H
      have LMc31:=Aside0.mk c31
      clear c31
      obtain ⟨y285,hy285⟩ : ∃ y_ : List (S91),y_ = (x5_1 ++ [(⟨a1_0,a1_1⟩ : S91)]):=⟨_,rfl⟩
      replace H : (some y285) = some r:=by (rw [hy285];with_reducible exact H)
      have Ny285:=Aside0.mk hy285
      clear hy285
      obtain rfl:=Option.some.inj H
      have hcz32_0 : wr.cell? ⟨gb284,0,none⟩ = some (.string a1_0):=(blk_cell BK284.out 0).trans rfl
      have hcz32_1 : wr.cell? ⟨gb284,1,none⟩ = some (.string a1_1):=(blk_cell BK284.out 1).trans rfl
      have hfz32_0:=blk_frozen BK284.out 0
      have hfz32_1:=blk_frozen BK284.out 1
      go_wp2_with (((with_reducible refine gate_builtin (b:=.append) (xs:=#[.tmp 47,.tmp 49]) rfl ?_);at_builtin;refine Kd.R_append k91 (w0:=w) w.heap.size rfl (.tmp 47) (.tmp 49) 24 91 (.agg #[(.string ⟨#[]⟩),(.string ⟨#[]⟩)]) 32 rfl Try.underlying24 info91 rfl (by decide) (by omega) u5 x5_1 (⟨a1_0,a1_1⟩ : S91) [.string a1_0,.string a1_1] (fun k_ => k_ ≠ gb284) (fun _ => False) rfl rfl ?aP (fun _ hk => hk.elim) ?aF ?aO ?aB ?aS ?aL ?_;(case aP => exact k91_mkM _ _ _ (⟨a1_0,a1_1⟩ : S91));(case aB => exact HB.out);(case aF => exact (fun k_ hk => Kd.freshB BK284.out k_ hk));(case aO => exact HO_5.out);(case aS => exact (below_size HB.out));(case aL => have:=LMc31.out;omega);intro v286 w33 ho hb hg hat;rw [← Ny285.out] at ho;have n0_:=Aside0.mk (blk_grown BK284.out hg (Kd.R_away HO_5.out (fun _ hk => hk)));have n1_:=Aside0.mk hb;have n2_:=Aside0.mk ho;clear BK284;clear HB;clear HO_5;have BK284:=n0_;have HB:=n1_;have HO287:=n2_;clear n0_ n1_ n2_;clear ho hb hg hat))
      repeat (go_quiet (((with_reducible refine gate_builtin (b:=.append) (xs:=#[.tmp 47,.tmp 49]) rfl ?_);at_builtin;refine Kd.R_append k91 (w0:=w) w.heap.size rfl (.tmp 47) (.tmp 49) 24 91 (.agg #[(.string ⟨#[]⟩),(.string ⟨#[]⟩)]) 32 rfl Try.underlying24 info91 rfl (by decide) (by omega) u5 x5_1 (⟨a1_0,a1_1⟩ : S91) [.string a1_0,.string a1_1] (fun k_ => k_ ≠ gb284) (fun _ => False) rfl rfl ?aP (fun _ hk => hk.elim) ?aF ?aO ?aB ?aS ?aL ?_;(case aP => exact k91_mkM _ _ _ (⟨a1_0,a1_1⟩ : S91));(case aB => exact (by repeat (first | (with_reducible first | exact HB.out | apply below_alloc | apply pw_below_drewN | apply below_drew1 | refine below_set ?_ GE284.out) | exact HB.out)));(case aF => exact (fun k_ hk => Kd.freshB BK284.out k_ hk));(case aO => exact HO_5.out);(case aS => exact (below_size (by repeat (first | (with_reducible first | exact HB.out | apply below_alloc | apply pw_below_drewN | apply below_drew1 | refine below_set ?_ GE284.out) | exact HB.out))));(case aL => have:=LMc31.out;omega);intro v286 w33 ho hb hg hat;rw [← Ny285.out] at ho;have n0_:=Aside0.mk (blk_grown BK284.out hg (Kd.R_away HO_5.out (fun _ hk => hk)));have n1_:=Aside0.mk hb;have n2_:=Aside0.mk ho;clear BK284;clear HB;clear HO_5;have BK284:=n0_;have HB:=n1_;have HO287:=n2_;clear n0_ n1_ n2_;clear ho hb hg hat));try go_wp2_with (((with_reducible refine gate_builtin (b:=.append) (xs:=#[.tmp 47,.tmp 49]) rfl ?_);at_builtin;refine Kd.R_append k91 (w0:=w) w.heap.size rfl (.tmp 47) (.tmp 49) 24 91 (.agg #[(.string ⟨#[]⟩),(.string ⟨#[]⟩)]) 32 rfl Try.underlying24 info91 rfl (by decide) (by omega) u5 x5_1 (⟨a1_0,a1_1⟩ : S91) [.string a1_0,.string a1_1] (fun k_ => k_ ≠ gb284) (fun _ => False) rfl rfl ?aP (fun _ hk => hk.elim) ?aF ?aO ?aB ?aS ?aL ?_;(case aP => exact k91_mkM _ _ _ (⟨a1_0,a1_1⟩ : S91));(case aB => exact (by repeat (first | (with_reducible first | exact HB.out | apply below_alloc | apply pw_below_drewN | apply below_drew1 | refine below_set ?_ GE284.out) | exact HB.out)));(case aF => exact (fun k_ hk => Kd.freshB BK284.out k_ hk));(case aO => exact HO_5.out);(case aS => exact (below_size (by repeat (first | (with_reducible first | exact HB.out | apply below_alloc | apply pw_below_drewN | apply below_drew1 | refine below_set ?_ GE284.out) | exact HB.out))));(case aL => have:=LMc31.out;omega);intro v286 w33 ho hb hg hat;rw [← Ny285.out] at ho;have n0_:=Aside0.mk (blk_grown BK284.out hg (Kd.R_away HO_5.out (fun _ hk => hk)));have n1_:=Aside0.mk hb;have n2_:=Aside0.mk ho;clear BK284;clear HB;clear HO_5;have BK284:=n0_;have HB:=n1_;have HO287:=n2_;clear n0_ n1_ n2_;clear ho hb hg hat)))
      go_ret
      exact ⟨_,by rfl,by exact Kd.R_mono HO287.out (fun _ hk => trivial),HB.out⟩
     ·rw [if_neg c31] at H
      exact absurd H (by simp)
mutual
def chanceryref1_Changed.l0 : Nat → List (S91) → List (S91) → List (S91) → Int → Int → Option ((List (S91)))
 | 0,_,_,_,_,_ => none
 | k + 1,x0,x1,x5,x11,x12 => if x12 < x11 then (if 0 ≤ x12 then (if x12 < (x0.length : Int) then ((chanceryref1_put.f k x5 ((rd_T91 x0 x12).f0) ((rd_T91 x0 x12).f1)).bind fun t303 => (chanceryref1_Changed.l0 k x0 x1 t303 x11 (wrap64 (x12 + 1)))) else (none)) else (none)) else (chanceryref1_Changed.l1 k x1 x5 (x1.length : Int) 0)
def chanceryref1_Changed.l1 : Nat → List (S91) → List (S91) → Int → Int → Option ((List (S91)))
 | 0,_,_,_,_ => none
 | k + 1,x1,x5,x23,x24 => if x24 < x23 then (if 0 ≤ x24 then (if x24 < (x1.length : Int) then ((chanceryref1_put.f k x5 ((rd_T91 x1 x24).f0) ((rd_T91 x1 x24).f1)).bind fun t307 => (chanceryref1_Changed.l1 k x1 t307 x23 (wrap64 (x24 + 1)))) else (none)) else (none)) else (chanceryref1_Changed.l2 k x5 ([] : List (S91)) (x5.length : Int) 0)
def chanceryref1_Changed.l2 : Nat → List (S91) → List (S91) → Int → Int → Option ((List (S91)))
 | 0,_,_,_,_ => none
 | k + 1,x5,x8,x35,x36 => if x36 < x35 then (if 0 ≤ x36 then (if x36 < (x5.length : Int) then (if ((rd_T91 x5 x36).f1).toList = ([] : List UInt8) then (chanceryref1_Changed.l2 k x5 x8 x35 (wrap64 (x36 + 1))) else (if x8.length < 4398046511104 then (chanceryref1_Changed.l2 k x5 (x8 ++ [(⟨(rd_T91 x5 x36).f0,(rd_T91 x5 x36).f1⟩ : S91)]) x35 (wrap64 (x36 + 1))) else (none))) else (none)) else (none)) else (some x8)
end
def chanceryref1_Changed.f (k : Nat) (l0 : List (S91)) (l1 : List (S91)) : Option ((List (S91))):=chanceryref1_Changed.l0 k l0 l1 ([] : List (S91)) (l0.length : Int) 0
set_option maxHeartbeats 8000000 in
set_option maxRecDepth 100000 in
theorem chanceryref1_Changed.calls (k : Nat) (A0 : Option Addr) (c0 : Nat) (l0 : List (S91)) (A1 : Option Addr) (c1 : Nat) (l1 : List (S91)) (r : List (S91)) (w : World) (hr0 : Kd.C k91 w A0 l0.length l0) (hc0 : l0.length ≤ c0) (hr1 : Kd.C k91 w A1 l1.length l1) (hc1 : l1.length ≤ c1) (h : chanceryref1_Changed.f k l0 l1 = some r) :
 Calls Try.prog 98 #[.slice A0 l0.length c0,.slice A1 l1.length c1] w fun e w' => ∃ v0_ : Value,e = .returned (v0_) ∧ Kd.R k91 91 w' w.heap.size (fun _ => True) v0_ r ∧ Below w.heap.size w w':=by
 have hu91:=Try.underlying91
 have HR0:=Aside0.mk hr0
 have HC0:=Aside0.mk hc0
 clear hr0 hc0
 have HR1:=Aside0.mk hr1
 have HC1:=Aside0.mk hc1
 clear hr1 hc1
 have HB:=Aside0.mk (Below.refl w.heap.size w)
 have H : (chanceryref1_Changed.l0 k l0 l1 ([] : List (S91)) (l0.length : Int) 0) = some r:=h
 clear h
 have H':=Aside0.mk H
 clear H
 go_enter Try.func98,Try.ntmps98
 go_wp2
 go_loopg [5,12] k (fun kq v5 v12 w' => ∃ (x5_1 : List (S91)) (x12_1 : Int),v12 = .int .i64 x12_1 ∧ Aside0 (chanceryref1_Changed.l0 kq l0 l1 x5_1 (l0.length : Int) x12_1 = some r) ∧ Aside0 (kq ≤ k) ∧ Aside0 (Kd.R k91 91 w' w.heap.size (fun _ => True) v5 x5_1) ∧ Aside0 (Below w.heap.size w w'))
 case atStart => exact ⟨(([] : List (S91))),(0),(by rfl),H',⟨Nat.le_refl _⟩,⟨by exact Kd.R_nil _ _ _ _ _⟩,⟨HB.out⟩⟩
 case round =>
  clear H'
  obtain ⟨x5_1,x12_1,rfl,HA,HK1,HO_5,HB⟩:=hrel
  cases gk with
  | zero => exact absurd HA.out (by simp [chanceryref1_Changed.l0])
  | succ k1 =>
   have H:=HA.out
   clear HA
   simp only [chanceryref1_Changed.l0] at H
   by_cases c3 : x12_1 < (l0.length : Int)
   ·rw [if_pos c3] at H
    have c3b0 : decide (x12_1 < (l0.length : Int)) = true:=decide_eq_true c3
    clear c3
    by_cases c4 : 0 ≤ x12_1
    ·rw [if_pos c4] at H
     have c4b0 : decide (0 ≤ x12_1) = true:=decide_eq_true c4
     clear c4
     by_cases c5 : x12_1 < (l0.length : Int)
     ·rw [if_pos c5] at H
      have c5b0 : decide (x12_1 < (l0.length : Int)) = true:=decide_eq_true c5
      clear c5
      replace H:=Option.bind_eq_some_iff.mp H
      obtain ⟨t303,A60,H⟩:=H
      replace H : (chanceryref1_Changed.l0 k1 l0 l1 t303 (l0.length : Int) (wrap64 (x12_1 + 1))) = some r:=H
      have A6:=Aside0.mk A60
      clear A60
      have H':=Aside0.mk H
      clear H
      have p302 : 0 ≤ (x12_1 : Int):=of_decide_eq_true (by assumption)
      have q302 : x12_1 < (l0.length : Int):=of_decide_eq_true (by assumption)
      obtain ⟨ad302,e302,hx302_0,hx302_1⟩:=at_T91 HR0.out x12_1 p302 q302
      cases e302
      replace hx302_0:=(HB.out.cell (World.block_lt_of_cell? w _ hx302_0)).trans hx302_0
      replace hx302_1:=(HB.out.cell (World.block_lt_of_cell? w _ hx302_1)).trans hx302_1
      replace p302:=eq_true p302
      replace q302:=eq_true q302
      obtain ⟨Ao7,co7,eo7⟩:=Kd.R_slice HO_5.out
      subst eo7
      go_wp2_with (((with_reducible refine gate_callee (f:=138) rfl ?_);refine goesL_ (some 20) rfl rfl Try.func138 (by kernel_rfl) rfl #[.slice Ao7 x5_1.length co7,.agg #[.string ((rd_T91 l0 x12_1).f0),.string ((rd_T91 l0 x12_1).f1)]] rfl (by (try simp only [List.map_toArray,List.map_cons,List.map_nil]);rfl) ?_;(with_reducible refine (chanceryref1_put.calls k1 _ _ x5_1 ((rd_T91 l0 x12_1).f0) ((rd_T91 l0 x12_1).f1) t303 _ ?side1 ?side2 A6.out).mono ?_);(case side1 => repeat (exact (Kd.R_reads' HO_5.out).2.2));(case side2 => exact (Kd.R_reads' HO_5.out).2.1);rintro e w8 ⟨v304,rfl,ho0,hb⟩;refine ⟨_,rfl,?_⟩;have n0_:=Aside0.mk (Kd.R_elder' HO_5.out (Kd.R_base ho0) hb);have n1_:=Aside0.mk (Kd.R_lower (Kd.R_new' ho0 (Kd.R_lt HO_5.out)) (below_size (by with_reducible exact HB.out)));have n2_:=Aside0.mk (below_step (by with_reducible exact HB.out) hb);clear HO_5;clear HB;have HO_5:=n0_;have HO305:=n1_;have HB:=n2_;clear n0_ n1_ n2_;(try clear hb);(try clear hb2);(try clear hk);(try clear hi);(try clear ho0)))
      go_roundg k1
      case measure => have:=HK1.out;omega
      case rel => exact ⟨(t303),(wrap64 (x12_1 + 1)),(by rfl),H',⟨by have:=HK1.out;omega⟩,⟨by exact Kd.R_mono HO305.out (fun _ hk => trivial)⟩,⟨HB.out⟩⟩
     ·rw [if_neg c5] at H
      exact absurd H (by simp)
    ·rw [if_neg c4] at H
     exact absurd H (by simp)
   ·rw [if_neg c3] at H
    have c3b0 : decide (x12_1 < (l0.length : Int)) = false:=decide_eq_false c3
    clear c3
    have H':=Aside0.mk H
    clear H
    go_wp2
    go_loopg [5,24] k1 (fun kq v5 v24 w' => ∃ (x5_2 : List (S91)) (x24_2 : Int),v24 = .int .i64 x24_2 ∧ Aside0 (chanceryref1_Changed.l1 kq l1 x5_2 (l1.length : Int) x24_2 = some r) ∧ Aside0 (kq ≤ k1) ∧ Aside0 (Kd.R k91 91 w' w.heap.size (fun _ => True) v5 x5_2) ∧ Aside0 (Below w.heap.size w w'))
    case atStart => exact ⟨(x5_1),(0),(by rfl),H',⟨Nat.le_refl _⟩,⟨by exact HO_5.out⟩,⟨HB.out⟩⟩
    case round =>
     clear H'
     try clear c3b0
     obtain ⟨x5_2,x24_2,rfl,HA,HK2,HO_5,HB⟩:=hrel
     cases gk with
     | zero => exact absurd HA.out (by simp [chanceryref1_Changed.l1])
     | succ k2 =>
      have H:=HA.out
      clear HA
      simp only [chanceryref1_Changed.l1] at H
      by_cases c9 : x24_2 < (l1.length : Int)
      ·rw [if_pos c9] at H
       have c9b0 : decide (x24_2 < (l1.length : Int)) = true:=decide_eq_true c9
       clear c9
       by_cases c10 : 0 ≤ x24_2
       ·rw [if_pos c10] at H
        have c10b0 : decide (0 ≤ x24_2) = true:=decide_eq_true c10
        clear c10
        by_cases c11 : x24_2 < (l1.length : Int)
        ·rw [if_pos c11] at H
         have c11b0 : decide (x24_2 < (l1.length : Int)) = true:=decide_eq_true c11
         clear c11
         replace H:=Option.bind_eq_some_iff.mp H
         obtain ⟨t307,A120,H⟩:=H
         replace H : (chanceryref1_Changed.l1 k2 l1 t307 (l1.length : Int) (wrap64 (x24_2 + 1))) = some r:=H
         have A12:=Aside0.mk A120
         clear A120
         have H':=Aside0.mk H
         clear H
         have p306 : 0 ≤ (x24_2 : Int):=of_decide_eq_true (by assumption)
         have q306 : x24_2 < (l1.length : Int):=of_decide_eq_true (by assumption)
         obtain ⟨ad306,e306,hx306_0,hx306_1⟩:=at_T91 HR1.out x24_2 p306 q306
         cases e306
         replace hx306_0:=(HB.out.cell (World.block_lt_of_cell? w _ hx306_0)).trans hx306_0
         replace hx306_1:=(HB.out.cell (World.block_lt_of_cell? w _ hx306_1)).trans hx306_1
         replace p306:=eq_true p306
         replace q306:=eq_true q306
         obtain ⟨Ao13,co13,eo13⟩:=Kd.R_slice HO_5.out
         subst eo13
         go_wp2_with (((with_reducible refine gate_callee (f:=138) rfl ?_);refine goesL_ (some 32) rfl rfl Try.func138 (by kernel_rfl) rfl #[.slice Ao13 x5_2.length co13,.agg #[.string ((rd_T91 l1 x24_2).f0),.string ((rd_T91 l1 x24_2).f1)]] rfl (by (try simp only [List.map_toArray,List.map_cons,List.map_nil]);rfl) ?_;(with_reducible refine (chanceryref1_put.calls k2 _ _ x5_2 ((rd_T91 l1 x24_2).f0) ((rd_T91 l1 x24_2).f1) t307 _ ?side1 ?side2 A12.out).mono ?_);(case side1 => repeat (exact (Kd.R_reads' HO_5.out).2.2));(case side2 => exact (Kd.R_reads' HO_5.out).2.1);rintro e w14 ⟨v308,rfl,ho0,hb⟩;refine ⟨_,rfl,?_⟩;have n0_:=Aside0.mk (Kd.R_elder' HO_5.out (Kd.R_base ho0) hb);have n1_:=Aside0.mk (Kd.R_lower (Kd.R_new' ho0 (Kd.R_lt HO_5.out)) (below_size (by with_reducible exact HB.out)));have n2_:=Aside0.mk (below_step (by with_reducible exact HB.out) hb);clear HO_5;clear HB;have HO_5:=n0_;have HO309:=n1_;have HB:=n2_;clear n0_ n1_ n2_;(try clear hb);(try clear hb2);(try clear hk);(try clear hi);(try clear ho0)))
         go_roundg k2
         case measure => have:=HK1.out;have:=HK2.out;omega
         case rel => exact ⟨(t307),(wrap64 (x24_2 + 1)),(by rfl),H',⟨by have:=HK1.out;have:=HK2.out;omega⟩,⟨by exact Kd.R_mono HO309.out (fun _ hk => trivial)⟩,⟨HB.out⟩⟩
        ·rw [if_neg c11] at H
         exact absurd H (by simp)
       ·rw [if_neg c10] at H
        exact absurd H (by simp)
      ·rw [if_neg c9] at H
       have c9b0 : decide (x24_2 < (l1.length : Int)) = false:=decide_eq_false c9
       clear c9
       have H':=Aside0.mk H
       clear H
       obtain ⟨Ao15,co15,eo15⟩:=Kd.R_slice HO_5.out
       subst eo15
       go_wp2
       go_loopg [8,36] k2 (fun kq v8 v36 w' => ∃ (x8_3 : List (S91)) (x36_3 : Int),v36 = .int .i64 x36_3 ∧ Aside0 (chanceryref1_Changed.l2 kq x5_2 x8_3 (x5_2.length : Int) x36_3 = some r) ∧ Aside0 (kq ≤ k2) ∧ Aside0 (Kd.R k91 91 w' w.heap.size (fun k_ => some k_ ≠ (v8 : Value).ownBlock) (.slice Ao15 x5_2.length co15) x5_2) ∧ Aside0 (Kd.R k91 91 w' w.heap.size (fun k_ => some k_ ≠ ((.slice Ao15 x5_2.length co15) : Value).ownBlock) v8 x8_3) ∧ Aside0 (Below w.heap.size w w'))
       case atStart => exact ⟨(([] : List (S91))),(0),(by rfl),H',⟨Nat.le_refl _⟩,⟨by exact Kd.R_mono HO_5.out (fun _ hk => (by simp [Value.ownBlock]))⟩,⟨by exact Kd.R_nil _ _ _ _ _⟩,⟨HB.out⟩⟩
       case round =>
        clear H'
        try clear c9b0
        obtain ⟨x8_3,x36_3,rfl,HA,HK3,HO_5,HO_8,HB⟩:=hrel
        cases gk with
        | zero => exact absurd HA.out (by simp [chanceryref1_Changed.l2])
        | succ k3 =>
         have H:=HA.out
         clear HA
         simp only [chanceryref1_Changed.l2] at H
         by_cases c16 : x36_3 < (x5_2.length : Int)
         ·rw [if_pos c16] at H
          have c16b0 : decide (x36_3 < (x5_2.length : Int)) = true:=decide_eq_true c16
          clear c16
          by_cases c17 : 0 ≤ x36_3
          ·rw [if_pos c17] at H
           have c17b0 : decide (0 ≤ x36_3) = true:=decide_eq_true c17
           clear c17
           by_cases c18 : x36_3 < (x5_2.length : Int)
           ·rw [if_pos c18] at H
            have c18b0 : decide (x36_3 < (x5_2.length : Int)) = true:=decide_eq_true c18
            clear c18
            by_cases c19 : ((rd_T91 x5_2 x36_3).f1).toList = ([] : List UInt8)
            ·rw [if_pos c19] at H
             have c19b0 : (((rd_T91 x5_2 x36_3).f1).toList == ([] : List UInt8)) = true:=beq_iff_eq.mpr c19
             have c19b1 : (((rd_T91 x5_2 x36_3).f1).toList != ([] : List UInt8)) = false:=bne_eq_false_iff_eq.mpr c19
             clear c19
             have H':=Aside0.mk H
             clear H
             have p310 : 0 ≤ (x36_3 : Int):=of_decide_eq_true (by assumption)
             have q310 : x36_3 < (x5_2.length : Int):=of_decide_eq_true (by assumption)
             obtain ⟨ad310,e310,hx310_0,hx310_1⟩:=at_T91 (Kd.R_reads' HO_5.out).2.2 x36_3 p310 q310
             cases e310
             replace p310:=eq_true p310
             replace q310:=eq_true q310
             go_wp2
             go_roundg k3
             case measure => have:=HK1.out;have:=HK2.out;have:=HK3.out;omega
             case rel => exact ⟨(x8_3),(wrap64 (x36_3 + 1)),(by rfl),H',⟨by have:=HK1.out;have:=HK2.out;have:=HK3.out;omega⟩,⟨by exact HO_5.out⟩,⟨by exact HO_8.out⟩,⟨HB.out⟩⟩
            ·rw [if_neg c19] at H
             have c19b0 : (((rd_T91 x5_2 x36_3).f1).toList == ([] : List UInt8)) = false:=beq_eq_false_iff_ne.mpr c19
             have c19b1 : (((rd_T91 x5_2 x36_3).f1).toList != ([] : List UInt8)) = true:=bne_iff_ne.mpr c19
             by_cases c20 : x8_3.length < 4398046511104
             ·rw [if_pos c20] at H
              have LMc20:=Aside0.mk c20
              clear c20
              obtain ⟨y312,hy312⟩ : ∃ y_ : List (S91),y_ = (x8_3 ++ [(⟨(rd_T91 x5_2 x36_3).f0,(rd_T91 x5_2 x36_3).f1⟩ : S91)]):=⟨_,rfl⟩
              replace H : (chanceryref1_Changed.l2 k3 x5_2 y312 (x5_2.length : Int) (wrap64 (x36_3 + 1))) = some r:=by (rw [hy312];with_reducible exact H)
              have Ny312:=Aside0.mk hy312
              clear hy312
              have H':=Aside0.mk H
              clear H
              have p310 : 0 ≤ (x36_3 : Int):=of_decide_eq_true (by assumption)
              have q310 : x36_3 < (x5_2.length : Int):=of_decide_eq_true (by assumption)
              obtain ⟨ad310,e310,hx310_0,hx310_1⟩:=at_T91 (Kd.R_reads' HO_5.out).2.2 x36_3 p310 q310
              cases e310
              replace p310:=eq_true p310
              replace q310:=eq_true q310
              have p311 : 0 ≤ (x36_3 : Int):=of_decide_eq_true (by assumption)
              have q311 : x36_3 < (x5_2.length : Int):=of_decide_eq_true (by assumption)
              obtain ⟨ad311,e311,hx311_0,hx311_1⟩:=at_T91 (Kd.R_reads' HO_5.out).2.2 x36_3 p311 q311
              obtain rfl : ad310 = ad311:=(by injection e311)
              replace p311:=eq_true p311
              replace q311:=eq_true q311
              go_wp2_with (((with_reducible refine gate_builtin (b:=.append) (xs:=#[.tmp 45,.tmp 50]) rfl ?_);at_builtin;refine Kd.R_append k91 (w0:=w) w.heap.size rfl (.tmp 45) (.tmp 50) 24 91 (.agg #[(.string ⟨#[]⟩),(.string ⟨#[]⟩)]) 32 rfl Try.underlying24 info91 rfl (by decide) (by omega) u8 x8_3 (⟨(rd_T91 x5_2 x36_3).f0,(rd_T91 x5_2 x36_3).f1⟩ : S91) [.string ((rd_T91 x5_2 x36_3).f0),.string ((rd_T91 x5_2 x36_3).f1)] (fun k_ => some k_ ≠ (.slice (some ad310) x5_2.length co15 : Value).ownBlock) (fun _ => False) rfl rfl ?aP (fun _ hk => hk.elim) ?aF ?aO ?aB ?aS ?aL ?_;(case aP => exact k91_mkM _ _ _ (⟨(rd_T91 x5_2 x36_3).f0,(rd_T91 x5_2 x36_3).f1⟩ : S91));(case aB => exact (by with_reducible exact HB.out));(case aF => exact (fun k_ hk => Kd.fresh' (Kd.R_lt HO_5.out) k_ hk));(case aO => exact HO_8.out);(case aS => exact (below_size (by with_reducible exact HB.out)));(case aL => have:=LMc20.out;omega);intro v313 w21 ho hb hg hat;rw [← Ny312.out] at ho;have n0_:=Aside0.mk (Kd.R_after (ok:=(fun _ => True)) (by exact Kd.R_mono HO_5.out (fun _ hk => ⟨trivial,hk⟩)) hg hat);have n1_:=Aside0.mk hb;have n2_:=Aside0.mk ho;clear HO_5;clear HB;clear HO_8;have HO_5:=n0_;have HB:=n1_;have HO314:=n2_;clear n0_ n1_ n2_;clear ho hb hg hat))
              go_roundg k3
              case measure => have:=HK1.out;have:=HK2.out;have:=HK3.out;omega
              case rel => exact ⟨(y312),(wrap64 (x36_3 + 1)),(by rfl),H',⟨by have:=HK1.out;have:=HK2.out;have:=HK3.out;omega⟩,⟨by exact Kd.R_mono HO_5.out (fun _ hk => hk.2)⟩,⟨by exact HO314.out⟩,⟨HB.out⟩⟩
             ·rw [if_neg c20] at H
              exact absurd H (by simp)
           ·rw [if_neg c18] at H
            exact absurd H (by simp)
          ·rw [if_neg c17] at H
           exact absurd H (by simp)
         ·rw [if_neg c16] at H
          have c16b0 : decide (x36_3 < (x5_2.length : Int)) = false:=decide_eq_false c16
          clear c16
          obtain rfl:=Option.some.inj H
          go_wp2
          go_ret
          exact ⟨_,by rfl,by exact Kd.R_mono HO_8.out (fun _ hk => trivial),HB.out⟩
def chanceryref1_Done.l0 : Nat → List (S26) → List (S26) → Int → Int → List (List (S26)) → List Bool → List (List (S91)) → Option ((List (S26)))
 | 0,_,_,_,_,_,_,_ => none
 | k + 1,x0,x5,x9,x10,x316000,x316001,x316002 => if x10 < x9 then (if 0 ≤ x10 then (if x10 < (x316000.length : Int) then (if x5.length + (rd_L5 x316000 x10).length < 3518437208883 then ((some (x5 ++ (rd_L5 x316000 x10) : List (S26))).bind fun y317 => (if x10 < (x316001.length : Int) then (if rdOf false x316001 x10 = true then (chanceryref1_Done.l0 k x0 y317 x9 (wrap64 (x10 + 1)) x316000 x316001 x316002) else (if x10 < (x0.length : Int) then (if x10 < (x316002.length : Int) then ((chanceryref1_Changed.f k ((rd_T26 x0 x10).f2) (rd_L3 x316002 x10)).bind fun t324 => (if y317.length < 3518437208883 then (chanceryref1_Done.l0 k x0 (y317 ++ [(⟨(rd_T26 x0 x10).f0,(rd_T26 x0 x10).f1,t324⟩ : S26)]) x9 (wrap64 (x10 + 1)) x316000 x316001 x316002) else (none))) else (none)) else (none))) else (none))) else (none)) else (none)) else (none)) else (if 0 ≤ (x0.length : Int) then (if (x0.length : Int) < (x316000.length : Int) then (if x5.length + (rd_L5 x316000 (x0.length : Int)).length < 3518437208883 then (some (x5 ++ (rd_L5 x316000 (x0.length : Int)))) else (none)) else (none)) else (none))
def chanceryref1_Done.f (k : Nat) (l0 : List (S26)) (l1_0 : List (List (S26))) (l1_1 : List Bool) (l1_2 : List (List (S91))) : Option ((List (S26))):=chanceryref1_Done.l0 k l0 ([] : List (S26)) (l0.length : Int) 0 l1_0 l1_1 l1_2
def chanceryref1_Done.T8 : Bool × List (List Nat × List Nat):=(true,[([],[]),([0],[0]),([],[]),([2],[2]),([],[]),([3,4],[3,4]),([5],[5]),([1,6],[1,6]),([0,1,2,3,4,5,6,7],[]),([8,7,7,0,1,2,3,4,5,6,7],[7,8])])
def chanceryref1_Done.B8 : List Nat:=[0,1,0,4,0,28,60,127,255,511]
theorem chanceryref1_Done.tab8 : rtab .any (opsOf Try.f63 8) = chanceryref1_Done.T8:=by kernel_rfl
theorem chanceryref1_Done.bits8 : waitsOk chanceryref1_Done.T8.2 chanceryref1_Done.B8 = true:=by kernel_rfl
set_option maxHeartbeats 8000000 in
set_option maxRecDepth 100000 in
theorem chanceryref1_Done.calls (k : Nat) (A0 : Option Addr) (c0 : Nat) (l0 : List (S26)) (P1_0_ : Nat → Prop) (A1_0 : Option Addr) (c1_0 : Nat) (l1_0 : List (List (S26))) (A1_1 : Option Addr) (c1_1 : Nat) (l1_1 : List Bool) (A1_2 : Option Addr) (c1_2 : Nat) (l1_2 : List (List (S91))) (r : List (S26)) (w : World) (hr0 : Kd.C k26 w A0 l0.length l0) (hc0 : l0.length ≤ c0) (hs1_0 : Kd.V (Kd.slice 26 k26) 22 w w.heap.size (fun k_ => P1_0_ k_) (.slice A1_0 l1_0.length c1_0) l1_0) (hr1_1 : Kd.C Kd.bool w A1_1 l1_1.length l1_1) (hc1_1 : l1_1.length ≤ c1_1) (hr1_2 : Kd.C (Kd.slice 91 k91) w A1_2 l1_2.length l1_2) (hc1_2 : l1_2.length ≤ c1_2) (h : chanceryref1_Done.f k l0 l1_0 l1_1 l1_2 = some r) :
 Calls Try.prog 63 #[.slice A0 l0.length c0,.agg #[.slice A1_0 l1_0.length c1_0,.slice A1_1 l1_1.length c1_1,.slice A1_2 l1_2.length c1_2]] w fun e w' => ∃ v0_ : Value,e = .returned (v0_) ∧ Kd.N k26 26 w' w.heap.size (fun k_ => (P1_0_ k_ ∨ w.heap.size ≤ k_)) v0_ r ∧ Below w.heap.size w w':=by
 have hu103:=Try.underlying103
 have hu26:=Try.underlying26
 have HR0:=Aside0.mk hr0
 have HC0:=Aside0.mk hc0
 clear hr0 hc0
 have HO1_0:=Aside0.mk (show Kd.V (Kd.slice 26 k26) 22 w w.heap.size (fun k_ => (P1_0_ k_ ∨ w.heap.size ≤ k_)) (.slice A1_0 l1_0.length c1_0) l1_0 from Kd.V_mono hs1_0 (fun k_ hk => .inl hk))
 have HR1_1:=Aside0.mk hr1_1
 have HC1_1:=Aside0.mk hc1_1
 clear hr1_1 hc1_1
 have HR1_2:=Aside0.mk hr1_2
 have HC1_2:=Aside0.mk hc1_2
 clear hr1_2 hc1_2
 have HB:=Aside0.mk (Below.refl w.heap.size w)
 have H : (chanceryref1_Done.l0 k l0 ([] : List (S26)) (l0.length : Int) 0 l1_0 l1_1 l1_2) = some r:=h
 clear h
 have H':=Aside0.mk H
 clear H
 go_enter Try.func63,Try.ntmps63
 go_wp2_with (((with_reducible refine gate_dst (N:=3) rfl ?_);refine box_event ?hg (N:=3) ?hd (cs:=#[.slice A1_0 l1_0.length c1_0,.slice A1_1 l1_1.length c1_1,.slice A1_2 l1_2.length c1_2]) (t:=103) ?hr ?_;(case hd => rfl);(case hg => rfl);(case hr => (go_simp;done));intro gb315 hg w3 hbox hb;have n0_:=Aside0.mk (Kd.V_below (Kd.V_elderB HO1_0.out gb315 (Nat.le_of_eq hg.symm)) hb);have n1_:=Aside0.mk (below_step (by with_reducible exact HB.out) hb);have n2_:=Aside0.mk hbox;have n3_:=Aside0.mk ((by rw [hg];exact (below_size (by with_reducible exact HB.out)) : w.heap.size ≤ gb315));have n4_:=Aside0.mk ((by rw [hg];exact (below_size (by with_reducible exact HB.out)) : w.heap.size ≤ gb315));clear HO1_0;clear HB;have HO1_0:=n0_;have HB:=n1_;have BK315:=n2_;have GW315:=n3_;have GE315:=n4_;clear n0_ n1_ n2_ n3_ n4_;clear hb hbox hg))
 go_loopg [5,10] k (fun kq v5 v10 w' => ∃ (x5_1 : List (S26)) (x10_1 : Int),v10 = .int .i64 x10_1 ∧ Aside0 (chanceryref1_Done.l0 kq l0 x5_1 (l0.length : Int) x10_1 l1_0 l1_1 l1_2 = some r) ∧ Aside0 (kq ≤ k) ∧ Aside0 (Kd.N k26 26 w' w.heap.size (fun k_ => (P1_0_ k_ ∨ w.heap.size ≤ k_) ∧ k_ ≠ gb315) v5 x5_1) ∧ Aside0 (Kd.V (Kd.slice 26 k26) 22 w' w.heap.size (fun k_ => (P1_0_ k_ ∨ w.heap.size ≤ k_) ∧ some k_ ≠ (v5 : Value).ownBlock ∧ k_ ≠ gb315) (.slice A1_0 l1_0.length c1_0) l1_0) ∧ Aside0 (w'.heap[gb315]? = some (.cells #[(.slice A1_0 l1_0.length c1_0),(.slice A1_1 l1_1.length c1_1),(.slice A1_2 l1_2.length c1_2)] 103 (0,0))) ∧ Aside0 (Below w.heap.size w w'))
 case atStart => exact ⟨(([] : List (S26))),(0),(by rfl),H',⟨Nat.le_refl _⟩,⟨by exact Kd.N_nil _ _ _ _ _⟩,⟨by exact Kd.V_mono HO1_0.out (fun _ hk => ⟨hk.1,⟨(by simp [Value.ownBlock]),hk.2⟩⟩)⟩,⟨by exact BK315.out⟩,⟨HB.out⟩⟩
 case round =>
  clear H'
  obtain ⟨x5_1,x10_1,rfl,HA,HK1,HO_5,HO_316000,BK315,HB⟩:=hrel
  cases gk with
  | zero => exact absurd HA.out (by simp [chanceryref1_Done.l0])
  | succ k1 =>
   have H:=HA.out
   clear HA
   simp only [chanceryref1_Done.l0] at H
   by_cases c4 : x10_1 < (l0.length : Int)
   ·rw [if_pos c4] at H
    have c4b0 : decide (x10_1 < (l0.length : Int)) = true:=decide_eq_true c4
    clear c4
    by_cases c5 : 0 ≤ x10_1
    ·rw [if_pos c5] at H
     have c5b0 : decide (0 ≤ x10_1) = true:=decide_eq_true c5
     clear c5
     by_cases c6 : x10_1 < (l1_0.length : Int)
     ·rw [if_pos c6] at H
      have c6b0 : decide (x10_1 < (l1_0.length : Int)) = true:=decide_eq_true c6
      clear c6
      by_cases c7 : x5_1.length + (rd_L5 l1_0 x10_1).length < 3518437208883
      ·rw [if_pos c7] at H
       have LMc7:=Aside0.mk c7
       clear c7
       obtain ⟨y317,hy317⟩ : ∃ y_ : List (S26),y_ = (x5_1 ++ (rd_L5 l1_0 x10_1)):=⟨_,rfl⟩
       replace H : (if x10_1 < (l1_1.length : Int) then (if rdOf false l1_1 x10_1 = true then (chanceryref1_Done.l0 k1 l0 y317 (l0.length : Int) (wrap64 (x10_1 + 1)) l1_0 l1_1 l1_2) else (if x10_1 < (l0.length : Int) then (if x10_1 < (l1_2.length : Int) then ((chanceryref1_Changed.f k1 ((rd_T26 l0 x10_1).f2) (rd_L3 l1_2 x10_1)).bind fun t324 => (if y317.length < 3518437208883 then (chanceryref1_Done.l0 k1 l0 (y317 ++ [(⟨(rd_T26 l0 x10_1).f0,(rd_T26 l0 x10_1).f1,t324⟩ : S26)]) (l0.length : Int) (wrap64 (x10_1 + 1)) l1_0 l1_1 l1_2) else (none))) else (none)) else (none))) else (none)) = some r:=by (have H2_:=(Option.bind_some _ _).symm.trans H;rw [hy317];with_reducible exact H2_)
       have Ny317:=Aside0.mk hy317
       clear hy317
       by_cases c8 : x10_1 < (l1_1.length : Int)
       ·rw [if_pos c8] at H
        have c8b0 : decide (x10_1 < (l1_1.length : Int)) = true:=decide_eq_true c8
        clear c8
        obtain ⟨bq9,hbq9⟩ : ∃ b_ : Bool,b_ = (rdOf false l1_1 x10_1):=⟨_,rfl⟩
        replace H : (if bq9 = true then (chanceryref1_Done.l0 k1 l0 y317 (l0.length : Int) (wrap64 (x10_1 + 1)) l1_0 l1_1 l1_2) else (if x10_1 < (l0.length : Int) then (if x10_1 < (l1_2.length : Int) then ((chanceryref1_Changed.f k1 ((rd_T26 l0 x10_1).f2) (rd_L3 l1_2 x10_1)).bind fun t324 => (if y317.length < 3518437208883 then (chanceryref1_Done.l0 k1 l0 (y317 ++ [(⟨(rd_T26 l0 x10_1).f0,(rd_T26 l0 x10_1).f1,t324⟩ : S26)]) (l0.length : Int) (wrap64 (x10_1 + 1)) l1_0 l1_1 l1_2) else (none))) else (none)) else (none))) = some r:=by rw [← hbq9] at H;exact H
        have Nbq9:=Aside0.mk hbq9
        clear hbq9
        by_cases c10 : bq9 = true
        ·subst c10
         have H1 : (chanceryref1_Done.l0 k1 l0 y317 (l0.length : Int) (wrap64 (x10_1 + 1)) l1_0 l1_1 l1_2) = some r:=by rw [if_pos rfl] at H;exact H
         clear H
         have H:=H1
         clear H1
         have H':=Aside0.mk H
         clear H
         have hcz11_0 : wr.cell? ⟨gb315,0,none⟩ = some (.slice A1_0 l1_0.length c1_0):=(blk_cell BK315.out 0).trans rfl
         have hcz11_1 : wr.cell? ⟨gb315,1,none⟩ = some (.slice A1_1 l1_1.length c1_1):=(blk_cell BK315.out 1).trans rfl
         have hcz11_2 : wr.cell? ⟨gb315,2,none⟩ = some (.slice A1_2 l1_2.length c1_2):=(blk_cell BK315.out 2).trans rfl
         have hfz11_0:=blk_frozen BK315.out 0
         have hfz11_1:=blk_frozen BK315.out 1
         have hfz11_2:=blk_frozen BK315.out 2
         have p316 : 0 ≤ (x10_1 : Int):=of_decide_eq_true (by assumption)
         have q316 : x10_1 < (l1_0.length : Int):=of_decide_eq_true (by assumption)
         obtain ⟨ad316,A316_0,c316_0,e316,hx316_0,hl316_0,hi316_0⟩:=at_L5 (Kd.V_reads' HO_316000.out).2.2 x10_1 p316 q316
         cases e316
         obtain ⟨ce316,hce316,hMe316,hcc316⟩:=Kd.V_get HO_316000.out [] x10_1 p316 q316
         obtain ⟨ua316_0,uc316_0,rfl,ul316_0,ge316_0⟩:=Kd.FK_slice_open hMe316
         have hv316_0:=hcc316 0 _ rfl
         rw [Nat.add_zero,show ((Kd.slice 26 k26)).sz = 1 from rfl,Nat.mul_one] at hv316_0
         replace hv316_0:=Option.some.inj (hv316_0.symm.trans hx316_0)
         injection hv316_0 with hva_ hvn_ hvc_
         rw [hva_] at ge316_0
         rw [hvc_] at ul316_0
         have HL316_0:=Aside0.mk (show Kd.V k26 26 _ w.heap.size _ _ (rd_L5 l1_0 x10_1) from Kd.V_mk ul316_0 ge316_0)
         clear hva_ hvn_ hvc_ ge316_0 ul316_0
         clear hcc316 hce316
         have HR316_0:=Aside0.mk hi316_0
         have HC316_0:=Aside0.mk hl316_0
         clear hi316_0 hl316_0
         replace p316:=eq_true p316
         replace q316:=eq_true q316
         go_wp2_with (((with_reducible refine gate_builtin (b:=.append) (xs:=#[.tmp 13,.tmp 18]) rfl ?_);at_builtin;refine Kd.N_append_rows k26 (w0:=w) w.heap.size rfl (.tmp 13) (.tmp 18) 22 26 (.agg #[(.int .i64 0),(.int .i64 0),(.slice none 0 0)]) 40 rfl Try.underlying22 info26 rfl (by decide) (by omega) u5 x5_1 (rd_L5 l1_0 x10_1) _ _ _ (fun k_ => (P1_0_ k_ ∨ w.heap.size ≤ k_) ∧ k_ ≠ gb315) (fun k_ => ((fun k_ => (P1_0_ k_ ∨ w.heap.size ≤ k_) ∧ k_ ≠ gb315)) k_ ∧ some k_ ≠ (u5 : Value).ownBlock) rfl rfl ?aO ?aR (fun _ hk => hk) ?aF ?aB ?aS ?aL ?_;(case aR => exact (by skip;exact Kd.V_F (Kd.V_mono (ok':=(fun k_ => ((fun k_ => (P1_0_ k_ ∨ w.heap.size ≤ k_) ∧ k_ ≠ gb315)) k_ ∧ some k_ ≠ (u5 : Value).ownBlock)) (HL316_0.out) (fun k_ hk => ⟨⟨hk.1,hk.2.2⟩,hk.2.1⟩))));(case aB => exact HB.out);(case aF => exact (fun k_ hk => ⟨(.inr (Nat.le_trans (below_size HB.out) hk)),Kd.freshB BK315.out k_ hk⟩));(case aO => exact HO_5.out);(case aS => exact (below_size HB.out));(case aL => have:=LMc7.out;omega);intro v318 w12 ho hb hg hat;rw [← Ny317.out] at ho;have n0_:=Aside0.mk (Kd.V_afterv (ok:=(fun k_ => (P1_0_ k_ ∨ w.heap.size ≤ k_) ∧ k_ ≠ gb315)) (by exact Kd.V_mono HO_316000.out (fun _ hk => ⟨⟨hk.1,hk.2.2⟩,hk.2.1⟩)) hg hat);have n1_:=Aside0.mk (blk_grown BK315.out hg (Kd.N_ne HO_5.out BK315.out (by decide)));have n2_:=Aside0.mk (Kd.V_afterv (ok:=(fun k_ => (P1_0_ k_ ∨ w.heap.size ≤ k_) ∧ k_ ≠ gb315)) (by exact Kd.V_mono HL316_0.out (fun _ hk => ⟨⟨hk.1,hk.2.2⟩,hk.2.1⟩)) hg hat);have n3_:=Aside0.mk hb;have n4_:=Aside0.mk ho;clear HO_316000;clear BK315;clear HL316_0;clear HB;clear HO_5;have HO_316000:=n0_;have BK315:=n1_;have HL316_0:=n2_;have HB:=n3_;have HO319:=n4_;clear n0_ n1_ n2_ n3_ n4_;clear ho hb hg hat;have hcz13_0 : w12.cell? ⟨gb315,0,none⟩ = some (.slice (some ad316) l1_0.length c1_0):=(blk_cell BK315.out 0).trans rfl;have hcz13_1 : w12.cell? ⟨gb315,1,none⟩ = some (.slice A1_1 l1_1.length c1_1):=(blk_cell BK315.out 1).trans rfl;have hcz13_2 : w12.cell? ⟨gb315,2,none⟩ = some (.slice A1_2 l1_2.length c1_2):=(blk_cell BK315.out 2).trans rfl;have hfz13_0:=blk_frozen BK315.out 0;have hfz13_1:=blk_frozen BK315.out 1;have hfz13_2:=blk_frozen BK315.out 2;have p320 : 0 ≤ (x10_1 : Int):=of_decide_eq_true (by assumption);have q320 : x10_1 < (l1_1.length : Int):=of_decide_eq_true (by assumption);obtain ⟨ad320,e320,hx320_0⟩:=Kd.at_bool HR1_1.out x10_1 p320 q320;(try rw [← Nbq9.out] at hx320_0);cases e320;replace hx320_0:=(HB.out.cell (World.block_lt_of_cell? w _ hx320_0)).trans hx320_0;replace p320:=eq_true p320;replace q320:=eq_true q320))
         go_roundg k1
         case measure => have:=HK1.out;omega
         case rel => exact ⟨(y317),(wrap64 (x10_1 + 1)),(by rfl),H',⟨by have:=HK1.out;omega⟩,⟨by exact HO319.out⟩,⟨by exact Kd.V_mono HO_316000.out (fun _ hk => ⟨hk.1.1,⟨hk.2,hk.1.2⟩⟩)⟩,⟨by exact BK315.out⟩,⟨HB.out⟩⟩
        ·replace c10:=Bool.eq_false_iff.mpr c10
         subst c10
         have H1 : (if x10_1 < (l0.length : Int) then (if x10_1 < (l1_2.length : Int) then ((chanceryref1_Changed.f k1 ((rd_T26 l0 x10_1).f2) (rd_L3 l1_2 x10_1)).bind fun t324 => (if y317.length < 3518437208883 then (chanceryref1_Done.l0 k1 l0 (y317 ++ [(⟨(rd_T26 l0 x10_1).f0,(rd_T26 l0 x10_1).f1,t324⟩ : S26)]) (l0.length : Int) (wrap64 (x10_1 + 1)) l1_0 l1_1 l1_2) else (none))) else (none)) else (none)) = some r:=by rw [if_neg (show ¬ (false = true) by decide)] at H;exact H
         clear H
         have H:=H1
         clear H1
         by_cases c14 : x10_1 < (l0.length : Int)
         ·rw [if_pos c14] at H
          have c14b0 : decide (x10_1 < (l0.length : Int)) = true:=decide_eq_true c14
          clear c14
          by_cases c15 : x10_1 < (l1_2.length : Int)
          ·rw [if_pos c15] at H
           have c15b0 : decide (x10_1 < (l1_2.length : Int)) = true:=decide_eq_true c15
           clear c15
           replace H:=Option.bind_eq_some_iff.mp H
           obtain ⟨t324,A160,H⟩:=H
           replace H : (if y317.length < 3518437208883 then (chanceryref1_Done.l0 k1 l0 (y317 ++ [(⟨(rd_T26 l0 x10_1).f0,(rd_T26 l0 x10_1).f1,t324⟩ : S26)]) (l0.length : Int) (wrap64 (x10_1 + 1)) l1_0 l1_1 l1_2) else (none)) = some r:=H
           have A16:=Aside0.mk A160
           clear A160
           by_cases c17 : y317.length < 3518437208883
           ·rw [if_pos c17] at H
            have LMc17:=Aside0.mk c17
            clear c17
            obtain ⟨y327,hy327⟩ : ∃ y_ : List (S26),y_ = (y317 ++ [(⟨(rd_T26 l0 x10_1).f0,(rd_T26 l0 x10_1).f1,t324⟩ : S26)]):=⟨_,rfl⟩
            replace H : (chanceryref1_Done.l0 k1 l0 y327 (l0.length : Int) (wrap64 (x10_1 + 1)) l1_0 l1_1 l1_2) = some r:=by (rw [hy327];with_reducible exact H)
            have Ny327:=Aside0.mk hy327
            clear hy327
            have H':=Aside0.mk H
            clear H
            have hcz18_0 : wr.cell? ⟨gb315,0,none⟩ = some (.slice A1_0 l1_0.length c1_0):=(blk_cell BK315.out 0).trans rfl
            have hcz18_1 : wr.cell? ⟨gb315,1,none⟩ = some (.slice A1_1 l1_1.length c1_1):=(blk_cell BK315.out 1).trans rfl
            have hcz18_2 : wr.cell? ⟨gb315,2,none⟩ = some (.slice A1_2 l1_2.length c1_2):=(blk_cell BK315.out 2).trans rfl
            have hfz18_0:=blk_frozen BK315.out 0
            have hfz18_1:=blk_frozen BK315.out 1
            have hfz18_2:=blk_frozen BK315.out 2
            have p316 : 0 ≤ (x10_1 : Int):=of_decide_eq_true (by assumption)
            have q316 : x10_1 < (l1_0.length : Int):=of_decide_eq_true (by assumption)
            obtain ⟨ad316,A316_0,c316_0,e316,hx316_0,hl316_0,hi316_0⟩:=at_L5 (Kd.V_reads' HO_316000.out).2.2 x10_1 p316 q316
            cases e316
            obtain ⟨ce316,hce316,hMe316,hcc316⟩:=Kd.V_get HO_316000.out [] x10_1 p316 q316
            obtain ⟨ua316_0,uc316_0,rfl,ul316_0,ge316_0⟩:=Kd.FK_slice_open hMe316
            have hv316_0:=hcc316 0 _ rfl
            rw [Nat.add_zero,show ((Kd.slice 26 k26)).sz = 1 from rfl,Nat.mul_one] at hv316_0
            replace hv316_0:=Option.some.inj (hv316_0.symm.trans hx316_0)
            injection hv316_0 with hva_ hvn_ hvc_
            rw [hva_] at ge316_0
            rw [hvc_] at ul316_0
            have HL316_0:=Aside0.mk (show Kd.V k26 26 _ w.heap.size _ _ (rd_L5 l1_0 x10_1) from Kd.V_mk ul316_0 ge316_0)
            clear hva_ hvn_ hvc_ ge316_0 ul316_0
            clear hcc316 hce316
            have HR316_0:=Aside0.mk hi316_0
            have HC316_0:=Aside0.mk hl316_0
            clear hi316_0 hl316_0
            replace p316:=eq_true p316
            replace q316:=eq_true q316
            try go_wp2_with (first | ((with_reducible refine gate_builtin (b:=.append) (xs:=#[.tmp 13,.tmp 18]) rfl ?_);at_builtin;refine Kd.N_append_rows k26 (w0:=w) w.heap.size rfl (.tmp 13) (.tmp 18) 22 26 (.agg #[(.int .i64 0),(.int .i64 0),(.slice none 0 0)]) 40 rfl Try.underlying22 info26 rfl (by decide) (by omega) u5 x5_1 (rd_L5 l1_0 x10_1) _ _ _ (fun k_ => (P1_0_ k_ ∨ w.heap.size ≤ k_) ∧ k_ ≠ gb315) (fun k_ => ((fun k_ => (P1_0_ k_ ∨ w.heap.size ≤ k_) ∧ k_ ≠ gb315)) k_ ∧ some k_ ≠ (u5 : Value).ownBlock) rfl rfl ?aO ?aR (fun _ hk => hk) ?aF ?aB ?aS ?aL ?_;(case aR => exact (by skip;exact Kd.V_F (Kd.V_mono (ok':=(fun k_ => ((fun k_ => (P1_0_ k_ ∨ w.heap.size ≤ k_) ∧ k_ ≠ gb315)) k_ ∧ some k_ ≠ (u5 : Value).ownBlock)) (HL316_0.out) (fun k_ hk => ⟨⟨hk.1,hk.2.2⟩,hk.2.1⟩))));(case aB => exact HB.out);(case aF => exact (fun k_ hk => ⟨(.inr (Nat.le_trans (below_size HB.out) hk)),Kd.freshB BK315.out k_ hk⟩));(case aO => exact HO_5.out);(case aS => exact (below_size HB.out));(case aL => have:=LMc7.out;omega);intro v318 w19 ho hb hg hat;rw [← Ny317.out] at ho;have n0_:=Aside0.mk (Kd.V_afterv (ok:=(fun k_ => (P1_0_ k_ ∨ w.heap.size ≤ k_) ∧ k_ ≠ gb315)) (by exact Kd.V_mono HO_316000.out (fun _ hk => ⟨⟨hk.1,hk.2.2⟩,hk.2.1⟩)) hg hat);have n1_:=Aside0.mk (blk_grown BK315.out hg (Kd.N_ne HO_5.out BK315.out (by decide)));have n2_:=Aside0.mk (Kd.V_afterv (ok:=(fun k_ => (P1_0_ k_ ∨ w.heap.size ≤ k_) ∧ k_ ≠ gb315)) (by exact Kd.V_mono HL316_0.out (fun _ hk => ⟨⟨hk.1,hk.2.2⟩,hk.2.1⟩)) hg hat);have n3_:=Aside0.mk hb;have n4_:=Aside0.mk ho;clear HO_316000;clear BK315;clear HL316_0;clear HB;clear HO_5;have HO_316000:=n0_;have BK315:=n1_;have HL316_0:=n2_;have HB:=n3_;have HO319:=n4_;clear n0_ n1_ n2_ n3_ n4_;clear ho hb hg hat;have hcz20_0 : w19.cell? ⟨gb315,0,none⟩ = some (.slice (some ad316) l1_0.length c1_0):=(blk_cell BK315.out 0).trans rfl;have hcz20_1 : w19.cell? ⟨gb315,1,none⟩ = some (.slice A1_1 l1_1.length c1_1):=(blk_cell BK315.out 1).trans rfl;have hcz20_2 : w19.cell? ⟨gb315,2,none⟩ = some (.slice A1_2 l1_2.length c1_2):=(blk_cell BK315.out 2).trans rfl;have hfz20_0:=blk_frozen BK315.out 0;have hfz20_1:=blk_frozen BK315.out 1;have hfz20_2:=blk_frozen BK315.out 2;have p320 : 0 ≤ (x10_1 : Int):=of_decide_eq_true (by assumption);have q320 : x10_1 < (l1_1.length : Int):=of_decide_eq_true (by assumption);obtain ⟨ad320,e320,hx320_0⟩:=Kd.at_bool HR1_1.out x10_1 p320 q320;(try rw [← Nbq9.out] at hx320_0);cases e320;replace hx320_0:=(HB.out.cell (World.block_lt_of_cell? w _ hx320_0)).trans hx320_0;replace p320:=eq_true p320;replace q320:=eq_true q320;have p321 : 0 ≤ (x10_1 : Int):=of_decide_eq_true (by assumption);have q321 : x10_1 < (l0.length : Int):=of_decide_eq_true (by assumption);obtain ⟨ad321,A321_2,c321_2,e321,hx321_0,hx321_1,hx321_2,hl321_2,hi321_2⟩:=at_T26 HR0.out x10_1 p321 q321;cases e321;replace hx321_0:=(HB.out.cell (World.block_lt_of_cell? w _ hx321_0)).trans hx321_0;replace hx321_1:=(HB.out.cell (World.block_lt_of_cell? w _ hx321_1)).trans hx321_1;replace hx321_2:=(HB.out.cell (World.block_lt_of_cell? w _ hx321_2)).trans hx321_2;have HR321_2:=Aside0.mk hi321_2;have HC321_2:=Aside0.mk hl321_2;clear hi321_2 hl321_2;replace p321:=eq_true p321;replace q321:=eq_true q321) | ((with_reducible refine gate_dst (N:=7) rfl ?_);refine box_event ?hg (N:=7) ?hd (cs:=#[.int .i64 0,.int .i64 0,.slice none 0 0]) (t:=26) ?hr ?_;(case hd => rfl);(case hg => rfl);(case hr => (go_simp;done));intro gb322 hg w21 hbox hb;have n0_:=Aside0.mk (Kd.V_below (Kd.V_elderB HO_316000.out gb322 (Nat.le_of_eq hg.symm)) hb);have n1_:=Aside0.mk (Kd.V_below (Kd.V_elderB HL316_0.out gb322 (Nat.le_of_eq hg.symm)) hb);have n2_:=Aside0.mk (Kd.N_below (Kd.N_elderB HO319.out gb322 (Nat.le_of_eq hg.symm)) hb);have n3_:=Aside0.mk (blk_below BK315.out hb);have n4_:=Aside0.mk (below_step HB.out hb);have n5_:=Aside0.mk hbox;have n6_:=Aside0.mk ((by rw [hg];exact (below_size HB.out) : w.heap.size ≤ gb322));have n7_:=Aside0.mk ((by rw [hg];exact (below_size HB.out) : w.heap.size ≤ gb322));have n8_:=Aside0.mk ((by rw [hg];exact Nat.ne_of_lt (blk_lt BK315.out) : gb315 ≠ gb322));have n9_:=Aside0.mk ((by rw [hg];exact Nat.ne_of_gt (blk_lt BK315.out) : gb322 ≠ gb315));clear HO_316000;clear HL316_0;clear HO319;clear BK315;clear HB;have HO_316000:=n0_;have HL316_0:=n1_;have HO319:=n2_;have BK315:=n3_;have HB:=n4_;have BK322:=n5_;have GW322:=n6_;have GE322:=n7_;have NB315_322:=n8_;have NB322_315:=n9_;clear n0_ n1_ n2_ n3_ n4_ n5_ n6_ n7_ n8_ n9_;clear hb hbox hg;have hnb22:=NB322_315.out;have hnc22:=NB315_322.out;have hcz23_0 : w21.cell? ⟨gb322,0,none⟩ = some (.int .i64 0):=(blk_cell BK322.out 0).trans rfl;have hcz23_1 : w21.cell? ⟨gb322,1,none⟩ = some (.int .i64 0):=(blk_cell BK322.out 1).trans rfl;have hcz23_2 : w21.cell? ⟨gb322,2,none⟩ = some (.slice none 0 0):=(blk_cell BK322.out 2).trans rfl;have hfz23_0:=blk_frozen BK322.out 0;have hfz23_1:=blk_frozen BK322.out 1;have hfz23_2:=blk_frozen BK322.out 2))
            have n0_ : Aside0 (Kd.V (Kd.slice 26 k26) 22 (((w21.setCell ⟨gb322,0,none⟩ (.int .i64 ((rd_T26 l0 x10_1).f0))).setCell ⟨gb322,1,none⟩ (.int .i64 ((rd_T26 l0 x10_1).f1))).setCell ⟨gb322,2,none⟩ (.slice A321_2 ((rd_T26 l0 x10_1).f2).length c321_2)) w.heap.size (fun k_ => (P1_0_ k_ ∨ w.heap.size ≤ k_) ∧ some k_ ≠ (v318 : Value).ownBlock ∧ k_ ≠ gb315 ∧ k_ ≠ gb322) (.slice (some ad316) l1_0.length c1_0) l1_0):=⟨by exact Kd.V_mono (Kd.V_far (p:=⟨gb322,2,none⟩) (Kd.V_far (p:=⟨gb322,1,none⟩) (Kd.V_far (p:=⟨gb322,0,none⟩) (Kd.V_mono HO_316000.out (fun k_ hk => (⟨hk,hk.2⟩ : _ ∧ k_ ≠ gb322))) (fun _ hk => hk.2) (.int .i64 ((rd_T26 l0 x10_1).f0))) (fun _ hk => hk.2) (.int .i64 ((rd_T26 l0 x10_1).f1))) (fun _ hk => hk.2) (.slice A321_2 ((rd_T26 l0 x10_1).f2).length c321_2)) (fun _ hk => ⟨hk.1.1.1.1,⟨hk.1.1.2,⟨hk.1.1.1.2,hk.1.2⟩⟩⟩)⟩
            have n1_ : Aside0 (Kd.V k26 26 (((w21.setCell ⟨gb322,0,none⟩ (.int .i64 ((rd_T26 l0 x10_1).f0))).setCell ⟨gb322,1,none⟩ (.int .i64 ((rd_T26 l0 x10_1).f1))).setCell ⟨gb322,2,none⟩ (.slice A321_2 ((rd_T26 l0 x10_1).f2).length c321_2)) w.heap.size (fun k_ => (P1_0_ k_ ∨ w.heap.size ≤ k_) ∧ some k_ ≠ (v318 : Value).ownBlock ∧ k_ ≠ gb315 ∧ k_ ≠ gb322) (.slice A316_0 (rd_L5 l1_0 x10_1).length c316_0) (rd_L5 l1_0 x10_1)):=⟨by exact Kd.V_mono (Kd.V_far (p:=⟨gb322,2,none⟩) (Kd.V_far (p:=⟨gb322,1,none⟩) (Kd.V_far (p:=⟨gb322,0,none⟩) (Kd.V_mono HL316_0.out (fun k_ hk => (⟨hk,hk.2⟩ : _ ∧ k_ ≠ gb322))) (fun _ hk => hk.2) (.int .i64 ((rd_T26 l0 x10_1).f0))) (fun _ hk => hk.2) (.int .i64 ((rd_T26 l0 x10_1).f1))) (fun _ hk => hk.2) (.slice A321_2 ((rd_T26 l0 x10_1).f2).length c321_2)) (fun _ hk => ⟨hk.1.1.1.1,⟨hk.1.1.2,⟨hk.1.1.1.2,hk.1.2⟩⟩⟩)⟩
            have n2_ : Aside0 (Kd.N k26 26 (((w21.setCell ⟨gb322,0,none⟩ (.int .i64 ((rd_T26 l0 x10_1).f0))).setCell ⟨gb322,1,none⟩ (.int .i64 ((rd_T26 l0 x10_1).f1))).setCell ⟨gb322,2,none⟩ (.slice A321_2 ((rd_T26 l0 x10_1).f2).length c321_2)) w.heap.size (fun k_ => (P1_0_ k_ ∨ w.heap.size ≤ k_) ∧ k_ ≠ gb315 ∧ k_ ≠ gb322) v318 y317):=⟨by exact Kd.N_mono (Kd.N_far (p:=⟨gb322,2,none⟩) (Kd.N_far (p:=⟨gb322,1,none⟩) (Kd.N_far (p:=⟨gb322,0,none⟩) (Kd.N_mono HO319.out (fun k_ hk => (⟨hk,hk.2⟩ : _ ∧ k_ ≠ gb322))) (fun _ hk => hk.2) (.int .i64 ((rd_T26 l0 x10_1).f0))) (fun _ hk => hk.2) (.int .i64 ((rd_T26 l0 x10_1).f1))) (fun _ hk => hk.2) (.slice A321_2 ((rd_T26 l0 x10_1).f2).length c321_2)) (fun _ hk => ⟨hk.1.1.1,⟨hk.1.1.2,hk.1.2⟩⟩)⟩
            have n3_ : Aside0 ((((w21.setCell ⟨gb322,0,none⟩ (.int .i64 ((rd_T26 l0 x10_1).f0))).setCell ⟨gb322,1,none⟩ (.int .i64 ((rd_T26 l0 x10_1).f1))).setCell ⟨gb322,2,none⟩ (.slice A321_2 ((rd_T26 l0 x10_1).f2).length c321_2)).heap[gb315]? = some (.cells #[.slice (some ad316) l1_0.length c1_0,.slice (some ad320) l1_1.length c1_1,.slice A1_2 l1_2.length c1_2] 103 (0,0))):=⟨by (with_reducible repeat (first | refine blk_drewN ?_ _ | refine blk_drew ?_ | refine blk_alloc ?_ _));refine blk_far ?_ NB315_322.out _;(with_reducible repeat (first | refine blk_drewN ?_ _ | refine blk_drew ?_ | refine blk_alloc ?_ _));refine blk_far ?_ NB315_322.out _;(with_reducible repeat (first | refine blk_drewN ?_ _ | refine blk_drew ?_ | refine blk_alloc ?_ _));refine blk_far ?_ NB315_322.out _;exact BK315.out⟩
            have n4_ : Aside0 ((((w21.setCell ⟨gb322,0,none⟩ (.int .i64 ((rd_T26 l0 x10_1).f0))).setCell ⟨gb322,1,none⟩ (.int .i64 ((rd_T26 l0 x10_1).f1))).setCell ⟨gb322,2,none⟩ (.slice A321_2 ((rd_T26 l0 x10_1).f2).length c321_2)).heap[gb322]? = some (.cells #[.int .i64 ((rd_T26 l0 x10_1).f0),.int .i64 ((rd_T26 l0 x10_1).f1),.slice A321_2 ((rd_T26 l0 x10_1).f2).length c321_2] 26 (0,0))):=⟨by (with_reducible repeat (first | refine blk_drewN ?_ _ | refine blk_drew ?_ | refine blk_alloc ?_ _));refine blk_put (cs:=#[.int .i64 ((rd_T26 l0 x10_1).f0),.int .i64 ((rd_T26 l0 x10_1).f1),.slice none 0 0]) ?_ 2 _ rfl;(with_reducible repeat (first | refine blk_drewN ?_ _ | refine blk_drew ?_ | refine blk_alloc ?_ _));refine blk_put (cs:=#[.int .i64 ((rd_T26 l0 x10_1).f0),.int .i64 0,.slice none 0 0]) ?_ 1 _ rfl;(with_reducible repeat (first | refine blk_drewN ?_ _ | refine blk_drew ?_ | refine blk_alloc ?_ _));refine blk_put (cs:=#[.int .i64 0,.int .i64 0,.slice none 0 0]) ?_ 0 _ rfl;exact BK322.out⟩
            have n5_ : Aside0 (Below w.heap.size w (((w21.setCell ⟨gb322,0,none⟩ (.int .i64 ((rd_T26 l0 x10_1).f0))).setCell ⟨gb322,1,none⟩ (.int .i64 ((rd_T26 l0 x10_1).f1))).setCell ⟨gb322,2,none⟩ (.slice A321_2 ((rd_T26 l0 x10_1).f2).length c321_2))):=⟨by repeat ((with_reducible first | exact HB.out | refine below_set ?_ GE322.out))⟩
            (try clear HO_316000)
            (try clear HL316_0)
            (try clear HO319)
            (try clear BK315)
            (try clear BK322)
            (try clear HB)
            generalize (((w21.setCell ⟨gb322,0,none⟩ (.int .i64 ((rd_T26 l0 x10_1).f0))).setCell ⟨gb322,1,none⟩ (.int .i64 ((rd_T26 l0 x10_1).f1))).setCell ⟨gb322,2,none⟩ (.slice A321_2 ((rd_T26 l0 x10_1).f2).length c321_2)) = w24 at n0_ n1_ n2_ n3_ n4_ n5_ ⊢
            have HO_316000:=n0_
            have HL316_0:=n1_
            have HO319:=n2_
            have BK315:=n3_
            have BK322:=n4_
            have HB:=n5_
            clear n0_ n1_ n2_ n3_ n4_ n5_
            have n0_:=Aside0.mk (Kd.V_drew HO_316000.out)
            have n1_:=Aside0.mk (Kd.V_drew HL316_0.out)
            have n2_:=Aside0.mk (Kd.N_drew HO319.out)
            have n3_:=Aside0.mk (blk_drew BK315.out)
            have n4_:=Aside0.mk (blk_drew BK322.out)
            have n5_:=Aside0.mk (below_drew1 HB.out)
            clear HO_316000
            clear HL316_0
            clear HO319
            clear BK315
            clear BK322
            clear HB
            have HO_316000:=n0_
            have HL316_0:=n1_
            have HO319:=n2_
            have BK315:=n3_
            have BK322:=n4_
            have HB:=n5_
            clear n0_ n1_ n2_ n3_ n4_ n5_
            have p323 : 0 ≤ (x10_1 : Int):=of_decide_eq_true (by assumption)
            have q323 : x10_1 < (l1_2.length : Int):=of_decide_eq_true (by assumption)
            obtain ⟨ad323,A323_0,c323_0,e323,hx323_0,hl323_0,hi323_0⟩:=at_L3 HR1_2.out x10_1 p323 q323
            have hw323_0:=hx323_0
            cases e323
            replace hx323_0:=(HB.out.cell (World.block_lt_of_cell? w _ hx323_0)).trans hx323_0
            have HR323_0:=Aside0.mk hi323_0
            have HC323_0:=Aside0.mk hl323_0
            clear hi323_0 hl323_0
            replace p323:=eq_true p323
            replace q323:=eq_true q323
            refine start_ (n:=10) (S:=fun w' => w'.cell? ⟨gb322,0,none⟩ = some (.int .i64 ((rd_T26 l0 x10_1).f0)) ∧ w'.cell? ⟨gb322,1,none⟩ = some (.int .i64 ((rd_T26 l0 x10_1).f1)) ∧ w'.cell? ⟨gb322,2,none⟩ = some (.slice A321_2 ((rd_T26 l0 x10_1).f2).length c321_2) ∧ w'.cell? ⟨gb315,0,none⟩ = some (.slice (some ad316) l1_0.length c1_0) ∧ w'.cell? ⟨gb315,1,none⟩ = some (.slice (some ad320) l1_1.length c1_1) ∧ w'.cell? ⟨gb315,2,none⟩ = some (.slice (some ad323) l1_2.length c1_2) ∧ w'.cell? (ad323.add (x10_1).toNat) = some (.slice A323_0 (rd_L3 l1_2 x10_1).length c323_0)) (ds:=[9]) #[false,false,false,false,false,false,false,false,false,false] (by kernel_rfl) rfl rfl ⟨(blk_cell BK322.out 0).trans rfl,(blk_cell BK322.out 1).trans rfl,(blk_cell BK322.out 2).trans rfl,(blk_cell BK315.out 0).trans rfl,(blk_cell BK315.out 1).trans rfl,(blk_cell BK315.out 2).trans rfl,((HB.out.cell (World.block_lt_of_cell? w _ hw323_0)).trans hw323_0)⟩ (fun hHeld => ?_);refine with_tabW chanceryref1_Done.tab8 chanceryref1_Done.bits8 (fun HT_ HW_ => ?_)
            generalize w24.drew = w25 at HO_316000 HL316_0 HO319 BK315 BK322 HB HR323_0 hx323_0 hHeld ⊢
            refine pure_ (i:=0) (N:=some 30) (v:=?_) (a':=?_) (bm 1 10) rfl rfl (any_of HT_.out (by kernel_rfl)) (fun _ _ _ h => h) (Or.inl ⟨by rfl,?_⟩) ?_ ?_
            rotate_left
            ·intro w'
             go_simp
             with_reducible rfl
            rotate_left
            ·simp only [Act.put,sA,sB,sC,i64_w,i32_w]
             rfl
            refine pure_ (i:=2) (N:=some 32) (v:=?_) (a':=?_) (bm 5 10) rfl rfl (any_of HT_.out (by kernel_rfl)) (fun _ _ _ h => h) (Or.inl ⟨by rfl,?_⟩) ?_ ?_
            rotate_left
            ·intro w'
             go_simp
             with_reducible rfl
            rotate_left
            ·simp only [Act.put,sA,sB,sC,i64_w,i32_w]
             rfl
            refine pure_ (i:=4) (N:=some 34) (v:=?_) (a':=?_) (bm 21 10) rfl rfl (any_of HT_.out (by kernel_rfl)) (fun _ _ _ h => h) (Or.inl ⟨by rfl,?_⟩) ?_ ?_
            rotate_left
            ·intro w'
             go_simp
             with_reducible rfl
            rotate_left
            ·simp only [Act.put,sA,sB,sC,i64_w,i32_w]
             rfl
            refine take_ (i:=1) (N:=some 31) (v:=?_) (a':=?_) (bm 23 10) rfl rfl (take_ofW HT_.out HW_.out (by kernel_rfl)) (fun _ _ _ h => h) (Or.inl ⟨by rfl,?_⟩) hHeld ?_ ?_
            rotate_left
            ·rintro w' ⟨s0,s1,s2,s3,s4,s5,s6⟩
             go_simp
             with_reducible rfl
            rotate_left
            ·simp only [Act.put,sA,sB,sC,i64_w,i32_w]
             rfl
            refine take_ (i:=3) (N:=some 33) (v:=?_) (a':=?_) (bm 31 10) rfl rfl (take_ofW HT_.out HW_.out (by kernel_rfl)) (fun _ _ _ h => h) (Or.inl ⟨by rfl,?_⟩) hHeld ?_ ?_
            rotate_left
            ·rintro w' ⟨s0,s1,s2,s3,s4,s5,s6⟩
             go_simp
             with_reducible rfl
            rotate_left
            ·simp only [Act.put,sA,sB,sC,i64_w,i32_w]
             rfl
            refine pure_ (i:=5) (N:=some 35) (v:=?_) (a':=?_) (bm 63 10) rfl rfl (any_of HT_.out (by kernel_rfl)) (fun _ _ _ h => h) (Or.inl ⟨by rfl,?_⟩) ?_ ?_
            rotate_left
            ·intro w'
             go_simp
             with_reducible rfl
            rotate_left
            ·simp only [Act.put,sA,sB,sC,i64_w,i32_w]
             rfl
            refine take_ (i:=6) (N:=some 36) (v:=?_) (a':=?_) (bm 127 10) rfl rfl (take_ofW HT_.out HW_.out (by kernel_rfl)) (fun _ _ _ h => h) (Or.inl ⟨by rfl,?_⟩) hHeld ?_ ?_
            rotate_left
            ·rintro w' ⟨s0,s1,s2,s3,s4,s5,s6⟩
             go_simp
             with_reducible rfl
            rotate_left
            ·simp only [Act.put,sA,sB,sC,i64_w,i32_w]
             rfl
            refine one_ (i:=7) (N:=some 37) (bm 255 10) rfl rfl (one_of HT_.out (by kernel_rfl)) (by decide) (fun K hK => ?_)
            refine goes_ Try.func98 (by kernel_rfl) rfl #[.slice A321_2 ((rd_T26 l0 x10_1).f2).length c321_2,.slice A323_0 (rd_L3 l1_2 x10_1).length c323_0] (by rfl) rfl rfl (by (try simp only [List.map_toArray,List.map_cons,List.map_nil]);rfl) ?_
            with_reducible refine (chanceryref1_Changed.calls k1 _ _ ((rd_T26 l0 x10_1).f2) _ _ (rd_L3 l1_2 x10_1) t324 _ ?side1 ?side2 ?side3 ?side4 A16.out).mono ?_
            (case side1 => repeat (exact (Kd.C_below HR321_2.out HB.out)))
            (case side2 => exact HC321_2.out)
            (case side3 => repeat (exact (Kd.C_below HR323_0.out HB.out)))
            (case side4 => exact HC323_0.out)
            rintro e w26 ⟨v325,rfl,ho0,hb⟩
            refine ⟨_,rfl,?_⟩
            have n0_:=Aside0.mk (Kd.V_elder' HO_316000.out (Kd.R_base ho0) hb)
            have n1_:=Aside0.mk (Kd.V_elder' HL316_0.out (Kd.R_base ho0) hb)
            have n2_:=Aside0.mk (Kd.N_elder' HO319.out (Kd.R_base ho0) hb)
            have n3_:=Aside0.mk (Kd.R_lower (Kd.R_newM (M:=fun k_ => (w.heap.size ≤ k_)) ho0 (below_size HB.out) (fun k_ h_ => h_)) (below_size HB.out))
            have n4_:=Aside0.mk (blk_below BK315.out hb)
            have n5_:=Aside0.mk (blk_below BK322.out hb)
            have n6_:=Aside0.mk (below_step HB.out hb)
            clear HO_316000
            clear HL316_0
            clear HO319
            clear BK315
            clear BK322
            clear HB
            have HO_316000:=n0_
            have HL316_0:=n1_
            have HO319:=n2_
            have HO326:=n3_
            have BK315:=n4_
            have BK322:=n5_
            have HB:=n6_
            clear n0_ n1_ n2_ n3_ n4_ n5_ n6_
            (try clear hb)
            (try clear hb2)
            (try clear hk)
            (try clear hi)
            (try clear ho0)
            obtain ⟨Ao27,co27,eo27⟩:=Kd.R_slice HO326.out
            (subst eo27)
            refine hK.out _ _ ⟨(blk_cell BK322.out 0).trans rfl,(blk_cell BK322.out 1).trans rfl,(blk_cell BK322.out 2).trans rfl,(blk_cell BK315.out 0).trans rfl,(blk_cell BK315.out 1).trans rfl,(blk_cell BK315.out 2).trans rfl,((HB.out.cell (World.block_lt_of_cell? w _ hw323_0)).trans hw323_0)⟩ (fun hHeld => ?_)
            clear hK K
            refine norm_ (a':=?_) ?_ ?_
            rotate_left
            ·show Act.put _ (some 37) _ = _
             simp only [Act.put,sA,sB,sC,i64_w,i32_w]
             rfl
            refine pure_ (i:=8) (N:=some 38) (v:=?_) (a':=?_) (bm 511 10) rfl rfl (any_of HT_.out (by kernel_rfl)) (fun _ _ _ h => h) (Or.inl ⟨by rfl,?_⟩) ?_ ?_
            rotate_left
            ·intro w'
             go_simp
             with_reducible rfl
            rotate_left
            ·simp only [Act.put,sA,sB,sC,i64_w,i32_w]
             rfl
            refine last_ (i:=9) (N:=none) (bm 1023 10) rfl rfl (one_of HT_.out (by kernel_rfl)) (by decide) (fun K hK => ?_)
            have hs28 : w26.cell? ⟨gb322,2,none⟩ = some (.slice A321_2 ((rd_T26 l0 x10_1).f2).length c321_2):=(blk_cell BK322.out 2).trans rfl
            have hfs28:=blk_frozen BK322.out 2
            have hns28_0:=NB315_322.out
            have hms28_0:=NB322_315.out
            refine skip_ (w1:=?_) (by rfl) rfl ?_ ?_
            rotate_left
            ·go_simp
             rfl
            refine hK.out _ _ ?_
            clear hK K
            refine done_ (done_of HT_.out (by kernel_rfl)) ?_
            have n0_ : Aside0 (Kd.V (Kd.slice 26 k26) 22 (w26.setCell ⟨gb322,2,none⟩ (.slice Ao27 t324.length co27)) w.heap.size (fun k_ => (P1_0_ k_ ∨ w.heap.size ≤ k_) ∧ some k_ ≠ (v318 : Value).ownBlock ∧ some k_ ≠ (.slice Ao27 t324.length co27 : Value).ownBlock ∧ k_ ≠ gb315 ∧ k_ ≠ gb322) (.slice (some ad316) l1_0.length c1_0) l1_0):=⟨by exact Kd.V_mono (Kd.V_far (p:=⟨gb322,2,none⟩) (Kd.V_mono HO_316000.out (fun k_ hk => (⟨hk,hk.1.2.2.2⟩ : _ ∧ k_ ≠ gb322))) (fun _ hk => hk.2) (.slice Ao27 t324.length co27)) (fun _ hk => ⟨hk.1.1.1,⟨hk.1.1.2.1,⟨hk.1.2,⟨hk.1.1.2.2.1,hk.1.1.2.2.2⟩⟩⟩⟩)⟩
            have n1_ : Aside0 (Kd.V k26 26 (w26.setCell ⟨gb322,2,none⟩ (.slice Ao27 t324.length co27)) w.heap.size (fun k_ => (P1_0_ k_ ∨ w.heap.size ≤ k_) ∧ some k_ ≠ (v318 : Value).ownBlock ∧ some k_ ≠ (.slice Ao27 t324.length co27 : Value).ownBlock ∧ k_ ≠ gb315 ∧ k_ ≠ gb322) (.slice A316_0 (rd_L5 l1_0 x10_1).length c316_0) (rd_L5 l1_0 x10_1)):=⟨by exact Kd.V_mono (Kd.V_far (p:=⟨gb322,2,none⟩) (Kd.V_mono HL316_0.out (fun k_ hk => (⟨hk,hk.1.2.2.2⟩ : _ ∧ k_ ≠ gb322))) (fun _ hk => hk.2) (.slice Ao27 t324.length co27)) (fun _ hk => ⟨hk.1.1.1,⟨hk.1.1.2.1,⟨hk.1.2,⟨hk.1.1.2.2.1,hk.1.1.2.2.2⟩⟩⟩⟩)⟩
            have n2_ : Aside0 (Kd.N k26 26 (w26.setCell ⟨gb322,2,none⟩ (.slice Ao27 t324.length co27)) w.heap.size (fun k_ => (P1_0_ k_ ∨ w.heap.size ≤ k_) ∧ some k_ ≠ (.slice Ao27 t324.length co27 : Value).ownBlock ∧ k_ ≠ gb315 ∧ k_ ≠ gb322) v318 y317):=⟨by exact Kd.N_mono (Kd.N_far (p:=⟨gb322,2,none⟩) (Kd.N_mono HO319.out (fun k_ hk => (⟨hk,hk.1.2.2⟩ : _ ∧ k_ ≠ gb322))) (fun _ hk => hk.2) (.slice Ao27 t324.length co27)) (fun _ hk => ⟨hk.1.1.1,⟨hk.1.2,⟨hk.1.1.2.1,hk.1.1.2.2⟩⟩⟩)⟩
            have n3_ : Aside0 (Kd.R k91 91 (w26.setCell ⟨gb322,2,none⟩ (.slice Ao27 t324.length co27)) w.heap.size (fun k_ => (w.heap.size ≤ k_)) (.slice Ao27 t324.length co27) t324):=⟨by exact Kd.R_mono (Kd.R_far (p:=⟨gb322,2,none⟩) (Kd.R_types HO326.out BK322.out (by decide)) (fun _ hk => hk.2) (.slice Ao27 t324.length co27)) (fun _ hk => hk.1.1)⟩
            have n4_ : Aside0 ((w26.setCell ⟨gb322,2,none⟩ (.slice Ao27 t324.length co27)).heap[gb315]? = some (.cells #[.slice (some ad316) l1_0.length c1_0,.slice (some ad320) l1_1.length c1_1,.slice (some ad323) l1_2.length c1_2] 103 (0,0))):=⟨by (with_reducible repeat (first | refine blk_drewN ?_ _ | refine blk_drew ?_ | refine blk_alloc ?_ _));refine blk_far ?_ NB315_322.out _;exact BK315.out⟩
            have n5_ : Aside0 ((w26.setCell ⟨gb322,2,none⟩ (.slice Ao27 t324.length co27)).heap[gb322]? = some (.cells #[.int .i64 ((rd_T26 l0 x10_1).f0),.int .i64 ((rd_T26 l0 x10_1).f1),.slice Ao27 t324.length co27] 26 (0,0))):=⟨by (with_reducible repeat (first | refine blk_drewN ?_ _ | refine blk_drew ?_ | refine blk_alloc ?_ _));refine blk_put (cs:=#[.int .i64 ((rd_T26 l0 x10_1).f0),.int .i64 ((rd_T26 l0 x10_1).f1),.slice A321_2 ((rd_T26 l0 x10_1).f2).length c321_2]) ?_ 2 _ rfl;exact BK322.out⟩
            have n6_ : Aside0 (Below w.heap.size w (w26.setCell ⟨gb322,2,none⟩ (.slice Ao27 t324.length co27))):=⟨by repeat ((with_reducible first | exact HB.out | refine below_set ?_ GE322.out))⟩
            (try clear HO_316000)
            (try clear HL316_0)
            (try clear HO319)
            (try clear HO326)
            (try clear BK315)
            (try clear BK322)
            (try clear HB)
            generalize (w26.setCell ⟨gb322,2,none⟩ (.slice Ao27 t324.length co27)) = w29 at n0_ n1_ n2_ n3_ n4_ n5_ n6_ ⊢
            have HO_316000:=n0_
            have HL316_0:=n1_
            have HO319:=n2_
            have HO326:=n3_
            have BK315:=n4_
            have BK322:=n5_
            have HB:=n6_
            clear n0_ n1_ n2_ n3_ n4_ n5_ n6_
            have hcz30_0 : w29.cell? ⟨gb322,0,none⟩ = some (.int .i64 ((rd_T26 l0 x10_1).f0)):=(blk_cell BK322.out 0).trans rfl
            have hcz30_1 : w29.cell? ⟨gb322,1,none⟩ = some (.int .i64 ((rd_T26 l0 x10_1).f1)):=(blk_cell BK322.out 1).trans rfl
            have hcz30_2 : w29.cell? ⟨gb322,2,none⟩ = some (.slice Ao27 t324.length co27):=(blk_cell BK322.out 2).trans rfl
            have hfz30_0:=blk_frozen BK322.out 0
            have hfz30_1:=blk_frozen BK322.out 1
            have hfz30_2:=blk_frozen BK322.out 2
            try go_wp2_with (((with_reducible refine gate_builtin (b:=.append) (xs:=#[.tmp 39,.tmp 41]) rfl ?_);at_builtin;refine Kd.N_append k26 (w0:=w) w.heap.size rfl (.tmp 39) (.tmp 41) 22 26 (.agg #[(.int .i64 0),(.int .i64 0),(.slice none 0 0)]) 40 rfl Try.underlying22 info26 rfl (by decide) (by omega) v318 y317 (⟨(rd_T26 l0 x10_1).f0,(rd_T26 l0 x10_1).f1,t324⟩ : S26) [.int .i64 ((rd_T26 l0 x10_1).f0),.int .i64 ((rd_T26 l0 x10_1).f1),.slice Ao27 t324.length co27] (fun k_ => (P1_0_ k_ ∨ w.heap.size ≤ k_) ∧ k_ ≠ gb315 ∧ k_ ≠ gb322) (fun k_ => ((fun k_ => (P1_0_ k_ ∨ w.heap.size ≤ k_) ∧ k_ ≠ gb315 ∧ k_ ≠ gb322)) k_ ∧ some k_ ≠ (v318 : Value).ownBlock) rfl rfl ?aP (fun _ hk => hk) ?aF ?aO ?aB ?aS ?aL ?_;(case aP => exact (k26_mkF _ _ (⟨(rd_T26 l0 x10_1).f0,(rd_T26 l0 x10_1).f1,t324⟩ : S26) (Kd.R_reads' (Kd.R_mono (ok':=(fun k_ => ((fun k_ => (P1_0_ k_ ∨ w.heap.size ≤ k_) ∧ k_ ≠ gb315 ∧ k_ ≠ gb322)) k_ ∧ some k_ ≠ (v318 : Value).ownBlock)) (Kd.R_types (Kd.R_types (Kd.R_apart' (HO326.out) (Kd.N_typed HO319.out) (by decide)) BK315.out (by decide)) BK322.out (by decide)) (fun k_ hk => ⟨⟨(.inr (hk.1.1.1)),⟨hk.1.2,hk.2⟩⟩,hk.1.1.2⟩))).2.1 (Kd.R_F (Kd.R_mono (ok':=(fun k_ => ((fun k_ => (P1_0_ k_ ∨ w.heap.size ≤ k_) ∧ k_ ≠ gb315 ∧ k_ ≠ gb322)) k_ ∧ some k_ ≠ (v318 : Value).ownBlock)) (Kd.R_types (Kd.R_types (Kd.R_apart' (HO326.out) (Kd.N_typed HO319.out) (by decide)) BK315.out (by decide)) BK322.out (by decide)) (fun k_ hk => ⟨⟨(.inr (hk.1.1.1)),⟨hk.1.2,hk.2⟩⟩,hk.1.1.2⟩)))));(case aB => exact HB.out);(case aF => exact (fun k_ hk => ⟨(.inr (Nat.le_trans (below_size HB.out) hk)),Kd.freshB BK315.out k_ hk,Kd.freshB BK322.out k_ hk⟩));(case aO => exact (by exact Kd.N_mono HO319.out (fun _ hk => ⟨hk.1,⟨hk.2.2.1,hk.2.2.2⟩⟩)));(case aS => exact (below_size HB.out));(case aL => have:=LMc17.out;omega);intro v328 w31 ho hb hg hat;rw [← Ny327.out] at ho;have n0_:=Aside0.mk (Kd.V_afterv (ok:=(fun k_ => (P1_0_ k_ ∨ w.heap.size ≤ k_) ∧ some k_ ≠ (.slice Ao27 t324.length co27 : Value).ownBlock ∧ k_ ≠ gb315 ∧ k_ ≠ gb322)) (by exact Kd.V_mono HO_316000.out (fun _ hk => ⟨⟨hk.1,⟨hk.2.2.1,⟨hk.2.2.2.1,hk.2.2.2.2⟩⟩⟩,hk.2.1⟩)) hg hat);have n1_:=Aside0.mk (blk_grown BK315.out hg (Kd.N_ne HO319.out BK315.out (by decide)));have n2_:=Aside0.mk (Kd.V_afterv (ok:=(fun k_ => (P1_0_ k_ ∨ w.heap.size ≤ k_) ∧ some k_ ≠ (.slice Ao27 t324.length co27 : Value).ownBlock ∧ k_ ≠ gb315 ∧ k_ ≠ gb322)) (by exact Kd.V_mono HL316_0.out (fun _ hk => ⟨⟨hk.1,⟨hk.2.2.1,⟨hk.2.2.2.1,hk.2.2.2.2⟩⟩⟩,hk.2.1⟩)) hg hat);have n3_:=Aside0.mk (blk_grown BK322.out hg (Kd.N_away HO319.out (fun _ hk => hk.2.2.2)));have n4_:=Aside0.mk hb;have n5_:=Aside0.mk ho;clear HO_316000;clear BK315;clear HL316_0;clear BK322;clear HB;clear HO319;clear HO326;have HO_316000:=n0_;have BK315:=n1_;have HL316_0:=n2_;have BK322:=n3_;have HB:=n4_;have HO329:=n5_;clear n0_ n1_ n2_ n3_ n4_ n5_;clear ho hb hg hat))
            go_roundg k1
            case measure => have:=HK1.out;omega
            case rel => exact ⟨(y327),(wrap64 (x10_1 + 1)),(by rfl),H',⟨by have:=HK1.out;omega⟩,⟨by exact Kd.N_mono HO329.out (fun _ hk => ⟨hk.1,hk.2.1⟩)⟩,⟨by exact Kd.V_mono HO_316000.out (fun _ hk => ⟨hk.1.1,⟨hk.2,hk.1.2.2.1⟩⟩)⟩,⟨by exact BK315.out⟩,⟨HB.out⟩⟩
           ·rw [if_neg c17] at H
            exact absurd H (by simp)
          ·rw [if_neg c15] at H
           exact absurd H (by simp)
         ·rw [if_neg c14] at H
          exact absurd H (by simp)
       ·rw [if_neg c8] at H
        exact absurd H (by simp)
      ·rw [if_neg c7] at H
       exact absurd H (by simp)
     ·rw [if_neg c6] at H
      exact absurd H (by simp)
    ·rw [if_neg c5] at H
     exact absurd H (by simp)
   ·rw [if_neg c4] at H
    have c4b0 : decide (x10_1 < (l0.length : Int)) = false:=decide_eq_false c4
    clear c4
    by_cases c32 : 0 ≤ (l0.length : Int)
    ·rw [if_pos c32] at H
     have c32b0 : decide (0 ≤ (l0.length : Int)) = true:=decide_eq_true c32
     have c32b1 : decide (0 ≤ l0.length) = true:=decide_eq_true (by omega)
     clear c32
     by_cases c33 : (l0.length : Int) < (l1_0.length : Int)
     ·rw [if_pos c33] at H
      have c33b0 : decide ((l0.length : Int) < (l1_0.length : Int)) = true:=decide_eq_true c33
      have c33b1 : decide (l0.length < l1_0.length) = true:=decide_eq_true (Int.ofNat_lt.mp c33)
      clear c33
      by_cases c34 : x5_1.length + (rd_L5 l1_0 (l0.length : Int)).length < 3518437208883
      ·rw [if_pos c34] at H
       have LMc34:=Aside0.mk c34
       clear c34
       obtain ⟨y331,hy331⟩ : ∃ y_ : List (S26),y_ = (x5_1 ++ (rd_L5 l1_0 (l0.length : Int))):=⟨_,rfl⟩
       replace H : (some y331) = some r:=by (rw [hy331];with_reducible exact H)
       have Ny331:=Aside0.mk hy331
       clear hy331
       obtain rfl:=Option.some.inj H
       have hcz35_0 : wr.cell? ⟨gb315,0,none⟩ = some (.slice A1_0 l1_0.length c1_0):=(blk_cell BK315.out 0).trans rfl
       have hcz35_1 : wr.cell? ⟨gb315,1,none⟩ = some (.slice A1_1 l1_1.length c1_1):=(blk_cell BK315.out 1).trans rfl
       have hcz35_2 : wr.cell? ⟨gb315,2,none⟩ = some (.slice A1_2 l1_2.length c1_2):=(blk_cell BK315.out 2).trans rfl
       have hfz35_0:=blk_frozen BK315.out 0
       have hfz35_1:=blk_frozen BK315.out 1
       have hfz35_2:=blk_frozen BK315.out 2
       have p330 : 0 ≤ ((l0.length : Int) : Int):=of_decide_eq_true (by assumption)
       have q330 : (l0.length : Int) < (l1_0.length : Int):=of_decide_eq_true (by assumption)
       obtain ⟨ad330,A330_0,c330_0,e330,hx330_0,hl330_0,hi330_0⟩:=at_L5 (Kd.V_reads' HO_316000.out).2.2 (l0.length : Int) p330 q330
       cases e330
       obtain ⟨ce330,hce330,hMe330,hcc330⟩:=Kd.V_get HO_316000.out [] (l0.length : Int) p330 q330
       obtain ⟨ua330_0,uc330_0,rfl,ul330_0,ge330_0⟩:=Kd.FK_slice_open hMe330
       have hv330_0:=hcc330 0 _ rfl
       rw [Nat.add_zero,show ((Kd.slice 26 k26)).sz = 1 from rfl,Nat.mul_one] at hv330_0
       replace hv330_0:=Option.some.inj (hv330_0.symm.trans hx330_0)
       injection hv330_0 with hva_ hvn_ hvc_
       rw [hva_] at ge330_0
       rw [hvc_] at ul330_0
       have HL330_0:=Aside0.mk (show Kd.V k26 26 _ w.heap.size _ _ (rd_L5 l1_0 (l0.length : Int)) from Kd.V_mk ul330_0 ge330_0)
       clear hva_ hvn_ hvc_ ge330_0 ul330_0
       clear hcc330 hce330
       have HR330_0:=Aside0.mk hi330_0
       have HC330_0:=Aside0.mk hl330_0
       clear hi330_0 hl330_0
       (try simp only [Go.IntWalk.toNatUp] at hx330_0)
       replace p330:=eq_true p330
       replace q330:=eq_true q330
       go_wp2_with (((with_reducible refine gate_builtin (b:=.append) (xs:=#[.tmp 44,.tmp 50]) rfl ?_);at_builtin;refine Kd.N_append_rows k26 (w0:=w) w.heap.size rfl (.tmp 44) (.tmp 50) 22 26 (.agg #[(.int .i64 0),(.int .i64 0),(.slice none 0 0)]) 40 rfl Try.underlying22 info26 rfl (by decide) (by omega) u5 x5_1 (rd_L5 l1_0 (l0.length : Int)) _ _ _ (fun k_ => (P1_0_ k_ ∨ w.heap.size ≤ k_) ∧ k_ ≠ gb315) (fun k_ => ((fun k_ => (P1_0_ k_ ∨ w.heap.size ≤ k_) ∧ k_ ≠ gb315)) k_ ∧ some k_ ≠ (u5 : Value).ownBlock) rfl rfl ?aO ?aR (fun _ hk => hk) ?aF ?aB ?aS ?aL ?_;(case aR => exact (by skip;exact Kd.V_F (Kd.V_mono (ok':=(fun k_ => ((fun k_ => (P1_0_ k_ ∨ w.heap.size ≤ k_) ∧ k_ ≠ gb315)) k_ ∧ some k_ ≠ (u5 : Value).ownBlock)) (HL330_0.out) (fun k_ hk => ⟨⟨hk.1,hk.2.2⟩,hk.2.1⟩))));(case aB => exact HB.out);(case aF => exact (fun k_ hk => ⟨(.inr (Nat.le_trans (below_size HB.out) hk)),Kd.freshB BK315.out k_ hk⟩));(case aO => exact HO_5.out);(case aS => exact (below_size HB.out));(case aL => have:=LMc34.out;omega);intro v332 w36 ho hb hg hat;rw [← Ny331.out] at ho;have n0_:=Aside0.mk (Kd.V_afterv (ok:=(fun k_ => (P1_0_ k_ ∨ w.heap.size ≤ k_) ∧ k_ ≠ gb315)) (by exact Kd.V_mono HO_316000.out (fun _ hk => ⟨⟨hk.1,hk.2.2⟩,hk.2.1⟩)) hg hat);have n1_:=Aside0.mk (blk_grown BK315.out hg (Kd.N_ne HO_5.out BK315.out (by decide)));have n2_:=Aside0.mk (Kd.V_afterv (ok:=(fun k_ => (P1_0_ k_ ∨ w.heap.size ≤ k_) ∧ k_ ≠ gb315)) (by exact Kd.V_mono HL330_0.out (fun _ hk => ⟨⟨hk.1,hk.2.2⟩,hk.2.1⟩)) hg hat);have n3_:=Aside0.mk hb;have n4_:=Aside0.mk ho;clear HO_316000;clear BK315;clear HL330_0;clear HB;clear HO_5;have HO_316000:=n0_;have BK315:=n1_;have HL330_0:=n2_;have HB:=n3_;have HO333:=n4_;clear n0_ n1_ n2_ n3_ n4_;clear ho hb hg hat))
       go_ret
       exact ⟨_,by rfl,by exact Kd.N_mono HO333.out (fun _ hk => hk.1),HB.out⟩
      ·rw [if_neg c34] at H
       exact absurd H (by simp)
     ·rw [if_neg c33] at H
      exact absurd H (by simp)
    ·rw [if_neg c32] at H
     exact absurd H (by simp)
end Go.Proofs.Ytlcodfjlbhjkbaa.PDelta
end
section
namespace Go.Proofs.Ytlcodfjlbhjkbaa.PDelta
open Go.RowKit Go.Proofs.YtlcodfjlbhjkbaaW.PrintWords Go.Proofs.YtlcodfjlbhjkbaaW.PrintLast Go.Proofs.YtlcodfjlbhjkbaaW.PrintMore
noncomputable def chanceryref1_After.f (l0 : List S26) (l1 : List S95) : Option (List S26):=if wtL l1 ≤ 1073741824 ∧ l1.length ≤ 1073741824 then ever (fun k => chanceryref1_Done.f k l0 (actA l1).1 (actA l1).2.1 (actA l1).2.2) else none
set_option maxRecDepth 100000 in
set_option maxHeartbeats 4000000 in
theorem chanceryref1_After.calls (A0 : Option Addr) (c0 : Nat) (l0 : List S26) (A1 : Option Addr) (c1 : Nat) (l1 : List S95) (r : List S26) (w : World) (hr0 : Kd.C k26 w A0 l0.length l0) (hc0 : l0.length ≤ c0) (hr1 : Kd.C k95 w A1 l1.length l1) (hc1 : l1.length ≤ c1) (h : chanceryref1_After.f l0 l1 = some r) :
 Calls Try.prog 29 #[.slice A0 l0.length c0,.slice A1 l1.length c1] w fun e w' => ∃ v0_ : Value,e = .returned v0_ ∧ Kd.N k26 26 w' w.heap.size (fun _ => True) v0_ r ∧ Below w.heap.size w w':=by
 have HR0:=Aside0.mk hr0
 have HC0:=Aside0.mk hc0
 have HR1:=Aside0.mk hr1
 have HC1:=Aside0.mk hc1
 unfold chanceryref1_After.f at h
 by_cases hl : wtL l1 ≤ 1073741824 ∧ l1.length ≤ 1073741824
 rotate_left
 ·rw [if_neg hl] at h
  cases h
 rw [if_pos hl] at h
 obtain ⟨k,hk⟩:=(ever_ev h).rounds
 have HK:=Aside0.mk hk
 have HL:=Aside0.mk hl
 clear hr0 hc0 hr1 hc1 h hk hl
 go_enter Try.func29,Try.ntmps29
 go_wp2_with (first | (go_at_call 64;go_loud ((with_reducible refine (act_calls A1 c1 l1 _ HR1.out HC1.out HL.out.1 HL.out.2).mono ?_);rintro e1 w1 ⟨B1,B2,B3,m1,m2,m3,rfl,hV,hB,hC,hb⟩;have HV:=Aside0.mk (show Kd.V (Kd.slice 26 k26) 22 w1 w1.heap.size (fun _ => True) (.slice B1 (actA l1).1.length m1) (actA l1).1 from hV);have HB:=Aside0.mk hB;have HC:=Aside0.mk hC;have HB1:=Aside0.mk hb;clear hV hB hC hb)) | (go_at_call 63;go_loud ((with_reducible refine (chanceryref1_Done.calls k A0 c0 l0 (fun _ => True) B1 m1 (actA l1).1 B2 m2 (actA l1).2.1 B3 m3 (actA l1).2.2 r w1 (Kd.C_below HR0.out HB1.out) HC0.out HV.out HB.out.1 HB.out.2 HC.out.1 HC.out.2 HK.out).mono ?_);rintro e1 w2 ⟨v2,rfl,hN,hb⟩;have HN:=Aside0.mk (Kd.N_lower hN HB1.out.size);have HB2:=Aside0.mk (below_step HB1.out hb);clear hN hb)))
 go_ret
 exact ⟨_,rfl,Kd.N_mono HN.out (fun _ _ => trivial),HB2.out⟩
end Go.Proofs.Ytlcodfjlbhjkbaa.PDelta
end

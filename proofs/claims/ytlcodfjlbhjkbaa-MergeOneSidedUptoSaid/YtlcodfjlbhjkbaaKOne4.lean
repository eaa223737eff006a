/- Parts of the proof of One: nothing is claimed here by itself. -/
import Derived.Test.YtlcodfjlbhjkbaaKOne3
import Derived.StillTailTactics
import Derived.Shelf.Abstract
set_option linter.unusedVariables false
set_option linter.unusedSimpArgs false
section
namespace Go.Proofs.Ytlcodfjlbhjkbaa.PDelta
open Go.RowKit Go.Proofs.YtlcodfjlbhjkbaaW.PrintWords Go.Proofs.YtlcodfjlbhjkbaaW.PrintLast Go.Proofs.YtlcodfjlbhjkbaaW.PrintMore
def tidyC (x:S95) (e:Int):Bool:=if x.f0 = 1 then decide (x.f3.length = 0 ∧ e = 11) else decide (x.f1 = 0 ∧ e = 2)
def tidyE (k:Nat) (x:S95) (e:Int):Option Int:=if tidyC x e = true then attr_CheckChange.f k x.f2 else some e
def tidyL (k:Nat):List S95 → WD → Option (List S95 × Int)
 | [],s=>doneD k s
 | x :: r,s=>(delta_step.f k x.f0 x.f1 x.f2 x.f3).bind fun e0=>(tidyE k x e0).bind fun e =>
  if e ≠ 0 then some ([],e) else if x.f0 = 0 then (keepF k s x.f1 x.f2).bind (tidyL k r) else if x.f0 = 1 then (elemsF k s x.f3).bind (tidyL k r)
  else if wrap64 (s.cut + x.f1) > 2147483647 then some ([],3) else tidyL k r ⟨s.out,s.add,wrap64 (s.cut + x.f1)⟩
def tidyF (k:Nat) (l:List S95):Option (List S95 × Int):=if 1099511627776 < l.length then none else tidyL k l ⟨[],[],0⟩
theorem drop_T95 (l:List S95) (i:Nat) (h:i < l.length):l.drop i = rd_T95 l (i:Int) :: l.drop (i + 1):=by
 rw [List.drop_eq_getElem_cons h]
 simp [rd_T95,List.getD_eq_getElem?_getD,List.getElem?_eq_getElem h]
theorem off_in {ok:Nat → Prop} {w0 wI w:World} {g:Nat} {vI uI v u:Value} {s:WD} {A:Option Addr} {n:Nat} {xs:List S91} (hs:WrS ok w0 wI g vI uI s v u w) (h:Kd.C k91 w0 A n xs):Kd.F k91 w (Off g v u) A n xs:=by
 refine Kd.F_mono (Kd.F_step (Kd.C_F k91_heap h) (fun k hk _=>hs.bel.block k hk)) (fun k hk=>⟨⟨fun e=>?_,fun e=>?_⟩,fun e=>?_⟩)
 ·have:=hs.ge;omega
 ·have:=Kd.N_base hs.row k e.symm;omega
 ·have:=Kd.N_base hs.radd k e.symm;omega
structure TSt (w0:World) (gw:Nat) (s:WD) (gb:Nat) (x:S95) (A2:Option Addr) (c2:Nat) (A3:Option Addr) (c3:Nat) (wr:World):Prop where
 ws:∃ v u,WrS (fun k=>w0.heap.size ≤ k) w0 wr gw v u s v u wr
 bk:wr.heap[gb]? = some (.cells #[.int .i64 x.f0,.int .i64 x.f1,.slice A2 x.f2.length c2,.slice A3 x.f3.length c3] 95 (0,0))
theorem WrS.fwd {ok:Nat → Prop} {w0 wI w w1:World} {g:Nat} {vI uI v u:Value} {s:WD} (h:WrS ok w0 wI g vI uI s v u w) (hb:Below w.heap.size w w1):WrS ok w0 w1 g v u s v u w1:=WrD.here (WrD.below h hb)
theorem wrs_size {ok:Nat → Prop} {w0 wI w:World} {g:Nat} {vI uI v u:Value} {s:WD} (h:WrS ok w0 wI g vI uI s v u w):w0.heap.size ≤ w.heap.size:=(WrD.bel h).size
theorem TSt.below {w0:World} {gw:Nat} {s:WD} {gb:Nat} {x:S95} {A2:Option Addr} {c2:Nat} {A3:Option Addr} {c3:Nat} {wr w1:World} (h:TSt w0 gw s gb x A2 c2 A3 c3 wr) (hb:Below wr.heap.size wr w1):TSt w0 gw s gb x A2 c2 A3 c3 w1:=by
 obtain ⟨v,u,hw⟩:=h.ws
 exact ⟨⟨v,u,hw.fwd hb⟩,(hb.block _ (blk_lt h.bk)).trans h.bk⟩
theorem TSt.bel {w0:World} {gw:Nat} {s:WD} {gb:Nat} {x:S95} {A2:Option Addr} {c2:Nat} {A3:Option Addr} {c3:Nat} {wr:World} (h:TSt w0 gw s gb x A2 c2 A3 c3 wr):Below w0.heap.size w0 wr:=by
 obtain ⟨v,u,hw⟩:=h.ws
 exact hw.bel
set_option maxRecDepth 100000 in
set_option maxHeartbeats 16000000 in
theorem tidy_callsN (k:Nat) (A0:Option Addr) (c0:Nat) (l0:List (S95)) (r1:List (S95)) (r2:Int) (w:World) (hr0:Kd.C k95 w A0 l0.length l0) (hc0:l0.length ≤ c0) (h:tidyF k l0 = some (r1,r2)) :
 Calls Try.prog 85 #[.slice A0 l0.length c0] w fun e w'=>∃ v0_:Value,e = .returned (.tuple #[v0_,.int .i64 r2]) ∧ Kd.N k95 95 w' w.heap.size (fun k_=>(w.heap.size ≤ k_)) v0_ r1 ∧ Below w.heap.size w w':=by
 have hu95:=Try.underlying95
 have hu193:=Try.underlying193
 have HR0:=Aside0.mk hr0
 have HC0:=Aside0.mk hc0
 clear hr0 hc0
 rw [tidyF] at h
 by_cases d0:1099511627776 < l0.length
 ·rw [if_pos d0] at h
  cases h
 rw [if_neg d0] at h
 have HLEN:=Aside0.mk d0
 have HZ:=Aside0.mk (show tidyL k (l0.drop 0) ⟨[],[],0⟩ = some (r1,r2) from h)
 clear d0 h
 have HJ0:Aside0 (∃ v u,WrS (fun k=>w.heap.size ≤ k) w (w.alloc (Obj.cells #[Value.slice none 0 0,Value.slice none 0 0,Value.int IntKind.i64 0] 193 (0,0))) w.heap.size v u ⟨[],[],0⟩ v u (w.alloc (Obj.cells #[Value.slice none 0 0,Value.slice none 0 0,Value.int IntKind.i64 0] 193 (0,0)))) :=
  ⟨.slice none 0 0,.slice none 0 0,Nat.le_refl _,blk_new w _,Kd.N_nil _ _ _ _ _,Kd.N_nil _ _ _ _ _,below_alloc (Below.refl _ _) _,Moves2.refl _ _ _ _⟩
 go_enter Try.func85,Try.ntmps85
 go_wp2
 go_loopg [10] l0.length (fun m v10 wr=>∃ (i:Nat) (s:WD),v10 = .int .i64 (i:Int) ∧ Aside0 (m + i = l0.length) ∧ Aside0 (∃ v u,WrS (fun k=>w.heap.size ≤ k) w wr w.heap.size v u s v u wr) ∧ Aside0 (tidyL k (l0.drop i) s = some (r1,r2)))
 case atStart=>exact ⟨0,⟨[],[],0⟩,rfl,⟨rfl⟩,HJ0,HZ⟩
 case round =>
  clear HJ0 HZ
  obtain ⟨i,s,rfl,HI,HW,HL⟩:=hrel
  by_cases d2:i < l0.length
  rotate_left
  ·have g1:decide ((i:Int) < (l0.length:Int)) = false:=decide_eq_false (by omega)
   have g1':decide (i < l0.length) = false:=decide_eq_false d2
   have hL:=HL.out
   rw [List.drop_eq_nil_of_le (by omega),tidyL] at hL
   have HD:=Aside0.mk hL
   clear d2 HL hL
   go_wp2_with (go_at_call 126;(obtain ⟨v,u,hv⟩:=HW.out);(with_reducible refine (doneD_calls (fun k=>w.heap.size ≤ k) w w.heap.size s r1 r2 v u _ k hv (fun _ hk=>Nat.le_trans (wrs_size hv) hk) HD.out).mono ?_);rintro e1 w6 ⟨v6,rfl,hR,hB,hM⟩;obtain ⟨A9,n9,hv9⟩:=Kd.N_slice hR;subst hv9;have HR9:=Aside0.mk hR;have HB9:=Aside0.mk hB;clear hR hB hM hv)
   go_ret2
   exact ⟨_,rfl,Kd.N_mono HR9.out (fun _ hk=>hk.1),HB9.out⟩
  obtain ⟨gl,rfl⟩:∃ gl,gk = gl + 1:=⟨gk - 1,by have:=HI.out;omega⟩
  have hL:=HL.out
  rw [drop_T95 l0 i d2,tidyL] at hL
  have HWB:Aside0 (Below w.heap.size w wr):=by
   obtain ⟨v,u,hv⟩:=HW.out
   exact ⟨hv.bel⟩
  have g1:decide ((i:Int) < (l0.length:Int)) = true:=decide_eq_true (by omega)
  have g1':decide (i < l0.length) = true:=decide_eq_true d2
  have q1:(i:Int) < (l0.length:Int):=by omega
  obtain ⟨ad0,A2,c2,A3,c3,e0,hx0,hx1,hx2,hx3,hl2,hg2,hl3,hg3⟩:=at_T95 HR0.out (i:Int) (by omega) q1
  cases e0
  replace hx0:=(HWB.out.cell (World.block_lt_of_cell? w _ hx0)).trans hx0
  replace hx1:=(HWB.out.cell (World.block_lt_of_cell? w _ hx1)).trans hx1
  replace hx2:=(HWB.out.cell (World.block_lt_of_cell? w _ hx2)).trans hx2
  replace hx3:=(HWB.out.cell (World.block_lt_of_cell? w _ hx3)).trans hx3
  simp only [Int.toNat_natCast] at hx0 hx1 hx2 hx3
  have wk:wrap64 ((i:Int) + 1) = (i:Int) + 1:=by have:=HLEN.out;unfold wrap64;omega
  obtain ⟨x,hx⟩:∃ x,x = rd_T95 l0 (i:Int):=⟨_,rfl⟩
  rw [← hx] at hx0 hx1 hx2 hx3 hl2 hg2 hl3 hg3 hL
  clear hx d2 HL
  obtain ⟨er,her,hL⟩:=Option.bind_eq_some_iff.1 hL
  obtain ⟨es,hes,hL⟩:=Option.bind_eq_some_iff.1 hL
  have HER:=Aside0.mk her
  have HES:=Aside0.mk hes
  have HL:=Aside0.mk hL
  have HL2:=Aside0.mk hl2
  have HL3:=Aside0.mk hl3
  have HG2:=Aside0.mk hg2
  have HG3:=Aside0.mk hg3
  clear her hes hL hl2 hl3 hg2 hg3
  have HT0:Aside0 (TSt w w.heap.size s wr.heap.size x A2 c2 A3 c3 (wr.alloc (Obj.cells #[.int .i64 x.f0,.int .i64 x.f1,.slice A2 x.f2.length c2,.slice A3 x.f3.length c3] 95 (0,0)))):=by
   obtain ⟨v,u,hv⟩:=HW.out
   exact ⟨⟨v,u,hv.fwd (below_alloc (Below.refl _ _) _)⟩,blk_new wr _⟩
  clear HW HWB
  go_upto_region 6 with (go_at_call 104;refine (delta_step.calls k x.f0 x.f1 A2 c2 x.f2 A3 c3 x.f3 er _ (Kd.C_below HG2.out HT0.out.bel) HL2.out (Kd.C_below HG3.out HT0.out.bel) HL3.out HER.out).mono ?_;rintro e w2 ⟨rfl,hb⟩;have HT2:=Aside0.mk (HT0.out.below hb);clear hb HT0)
  obtain ⟨gb,hgb⟩:∃ g,g = wr.heap.size:=⟨_,rfl⟩
  rw [← hgb] at HT2
  rw [← hgb]
  clear hgb hx0 hx1 hx2 hx3
  go_cut [42] (fun v42 wx=>v42 = .bool (tidyC x er) ∧ wx = w2)
  case first =>
   have q0:w2.cell? ⟨gb,0,none⟩ = some (.int .i64 x.f0):=(blk_cell HT2.out.bk 0).trans rfl
   have q1:w2.cell? ⟨gb,1,none⟩ = some (.int .i64 x.f1):=(blk_cell HT2.out.bk 1).trans rfl
   have q3:w2.cell? ⟨gb,3,none⟩ = some (.slice A3 x.f3.length c3):=(blk_cell HT2.out.bk 3).trans rfl
   by_cases f1:x.f0 = 1
   ·have b1:(x.f0 == 1) = true:=beq_iff_eq.mpr f1
    have b2:(x.f0 != 1) = false:=by rw [bne,b1];rfl
    by_cases f2:x.f3.length = 0
    ·have b3:((x.f3.length:Int) == 0) = true:=beq_iff_eq.mpr (by omega)
     have b3':(x.f3.length == 0) = true:=beq_iff_eq.mpr f2
     by_cases f3:er = 11
     ·have b4:(er == 11) = true:=beq_iff_eq.mpr f3
      have e:tidyC x er = true:=by rw [tidyC,if_pos f1];exact decide_eq_true ⟨f2,f3⟩
      have EC:=Aside0.mk e
      clear f1 f2 f3 e
      go_wp2
      go_meet
      case rel=>exact ⟨by rw [EC.out],rfl⟩
     ·have b4:(er == 11) = false:=beq_eq_false_iff_ne.mpr f3
      have e:tidyC x er = false:=by rw [tidyC,if_pos f1];exact decide_eq_false (fun h=>f3 h.2)
      have EC:=Aside0.mk e
      clear f1 f2 f3 e
      go_wp2
      go_meet
      case rel=>exact ⟨by rw [EC.out],rfl⟩
    ·have b3:((x.f3.length:Int) == 0) = false:=beq_eq_false_iff_ne.mpr (by omega)
     have b3':(x.f3.length == 0) = false:=beq_eq_false_iff_ne.mpr f2
     have e:tidyC x er = false:=by rw [tidyC,if_pos f1];exact decide_eq_false (fun h=>f2 h.1)
     have EC:=Aside0.mk e
     clear f1 f2 e
     go_wp2
     go_meet
     case rel=>exact ⟨by rw [EC.out],rfl⟩
   ·have b1:(x.f0 == 1) = false:=beq_eq_false_iff_ne.mpr f1
    have b2:(x.f0 != 1) = true:=bne_iff_ne.mpr f1
    by_cases f2:x.f1 = 0
    ·have b3:(x.f1 == 0) = true:=beq_iff_eq.mpr f2
     by_cases f3:er = 2
     ·have b4:(er == 2) = true:=beq_iff_eq.mpr f3
      have e:tidyC x er = true:=by rw [tidyC,if_neg f1];exact decide_eq_true ⟨f2,f3⟩
      have EC:=Aside0.mk e
      clear f1 f2 f3 e
      go_wp2
      go_meet
      case rel=>exact ⟨by rw [EC.out],rfl⟩
     ·have b4:(er == 2) = false:=beq_eq_false_iff_ne.mpr f3
      have e:tidyC x er = false:=by rw [tidyC,if_neg f1];exact decide_eq_false (fun h=>f3 h.2)
      have EC:=Aside0.mk e
      clear f1 f2 f3 e
      go_wp2
      go_meet
      case rel=>exact ⟨by rw [EC.out],rfl⟩
    ·have b3:(x.f1 == 0) = false:=beq_eq_false_iff_ne.mpr f2
     have e:tidyC x er = false:=by rw [tidyC,if_neg f1];exact decide_eq_false (fun h=>f2 h.1)
     have EC:=Aside0.mk e
     clear f1 f2 e
     go_wp2
     go_meet
     case rel=>exact ⟨by rw [EC.out],rfl⟩
  case rest =>
   obtain ⟨rfl,rfl⟩:=hcut
   have hE:=HES.out
   rw [tidyE] at hE
   obtain ⟨tc,htc⟩:∃ t,t = tidyC x er:=⟨_,rfl⟩
   rw [← htc] at hE
   rw [← htc]
   clear htc HES
   go_upto_if 42 with (fail)
   go_cut [7] (fun v7 wx=>v7 = .int .i64 es ∧ Aside0 (TSt w w.heap.size s gb x A2 c2 A3 c3 wx))
   case first =>
    cases tc with
    | true =>
     rw [if_pos rfl] at hE
     have HE:=Aside0.mk hE
     have q2:wc.cell? ⟨gb,2,none⟩ = some (.slice A2 x.f2.length c2):=(blk_cell HT2.out.bk 2).trans rfl
     clear hE
     go_wp2_with (go_at_call 123;refine (attr_CheckChange.calls k A2 c2 x.f2 es _ (Kd.C_below HG2.out HT2.out.bel) HL2.out HE.out).mono ?_;rintro e w3 ⟨rfl,hb⟩;have HT3:=Aside0.mk (HT2.out.below hb);clear hb)
     go_meet
     case rel=>exact ⟨rfl,HT3⟩
    | false =>
     rw [if_neg (by decide)] at hE
     injection hE with hE
     subst hE
     go_wp2
     go_meet
     case rel=>exact ⟨rfl,HT2⟩
   case rest =>
    clear hE HT2
    obtain ⟨rfl,HT⟩:=hcut
    have hL:=HL.out
    clear HL
    by_cases d3:es ≠ 0
    ·rw [if_pos d3] at hL
     have d3b:(es != 0) = true:=bne_iff_ne.mpr d3
     simp only [Option.some.injEq,Prod.mk.injEq] at hL
     obtain ⟨rfl,rfl⟩:=hL
     clear d3
     go_wp2
     go_ret2
     exact ⟨_,rfl,Kd.N_nil _ _ _ _ _,HT.out.bel⟩
    rw [if_neg d3] at hL
    have d3b:(es != 0) = false:=by simpa using d3
    clear d3
    have q0:wc.cell? ⟨gb,0,none⟩ = some (.int .i64 x.f0):=(blk_cell HT.out.bk 0).trans rfl
    have q1:wc.cell? ⟨gb,1,none⟩ = some (.int .i64 x.f1):=(blk_cell HT.out.bk 1).trans rfl
    by_cases d4:x.f0 = 0
    ·rw [if_pos d4] at hL
     have d4b:(x.f0 == 0) = true:=beq_iff_eq.mpr d4
     obtain ⟨s',hs',hL⟩:=Option.bind_eq_some_iff.1 hL
     have HS':=Aside0.mk hs'
     have HL:=Aside0.mk hL
     have q2:wc.cell? ⟨gb,2,none⟩ = some (.slice A2 x.f2.length c2):=(blk_cell HT.out.bk 2).trans rfl
     clear hs' hL d4
     go_wp2_with (go_at_call 124;(obtain ⟨v,u,hv⟩:=HT.out.ws);(with_reducible refine (keepF_calls (fun k=>w.heap.size ≤ k) w w.heap.size s s' x.f1 v u _ k A2 c2 x.f2 hv (fun _ hk=>Nat.le_trans (wrs_size hv) hk) (off_in hv HG2.out) HL2.out HS'.out).mono ?_);rintro e w3 ⟨rfl,v3,u3,hW3⟩;have HW3:=Aside0.mk hW3;clear hW3)
     go_roundg gl
     case measure=>omega
     case rel=>exact ⟨i + 1,s',by simp [wk],⟨by have:=HI.out;omega⟩,⟨_,_,WrD.here HW3.out⟩,HL⟩
    rw [if_neg d4] at hL
    have d4b:(x.f0 == 0) = false:=beq_eq_false_iff_ne.mpr d4
    clear d4
    by_cases d5:x.f0 = 1
    ·rw [if_pos d5] at hL
     have d5b:(x.f0 == 1) = true:=beq_iff_eq.mpr d5
     obtain ⟨s',hs',hL⟩:=Option.bind_eq_some_iff.1 hL
     have HS':=Aside0.mk hs'
     have HL:=Aside0.mk hL
     have q3:wc.cell? ⟨gb,3,none⟩ = some (.slice A3 x.f3.length c3):=(blk_cell HT.out.bk 3).trans rfl
     clear hs' hL d5
     go_wp2_with (go_at_call 125;(obtain ⟨v,u,hv⟩:=HT.out.ws);((refine (elemsF_calls (fun k=>w.heap.size ≤ k) w w.heap.size s s' v u _ k A3 c3 x.f3 hv (fun _ hk=>Nat.le_trans (wrs_size hv) hk) (Kd.C_below HG3.out (WrD.bel hv)) HL3.out HS'.out).mono ?_));rintro e w3 ⟨rfl,v3,u3,hW3⟩;have HW3:=Aside0.mk hW3;clear hW3)
     go_roundg gl
     case measure=>omega
     case rel=>exact ⟨i + 1,s',by simp [wk],⟨by have:=HI.out;omega⟩,⟨_,_,WrD.here HW3.out⟩,HL⟩
    rw [if_neg d5] at hL
    have d5b:(x.f0 == 1) = false:=beq_eq_false_iff_ne.mpr d5
    clear d5
    have HWP:Aside0 (∃ v u,WrS (fun k=>w.heap.size ≤ k) w (wc.setCell ⟨w.heap.size,2,none⟩ (.int .i64 (wrap64 (s.cut + x.f1)))) w.heap.size v u ⟨s.out,s.add,wrap64 (s.cut + x.f1)⟩ v u (wc.setCell ⟨w.heap.size,2,none⟩ (.int .i64 (wrap64 (s.cut + x.f1))))):=by
     obtain ⟨v,u,hv⟩:=HT.out.ws
     exact ⟨v,u,WrD.here (WrD.put2 hv _)⟩
    have hcut2:wc.cell? ⟨w.heap.size,2,none⟩ = some (.int .i64 s.cut):=by
     obtain ⟨v,u,hv⟩:=HT.out.ws
     exact (blk_cell hv.blk 2).trans rfl
    have hfz2:wc.frozen? ⟨w.heap.size,2,none⟩ = false:=by
     obtain ⟨v,u,hv⟩:=HT.out.ws
     exact blk_frozen hv.blk 2
    by_cases d6:wrap64 (s.cut + x.f1) > 2147483647
    ·rw [if_pos d6] at hL
     have d6b:decide (2147483647 < wrap64 (s.cut + x.f1)) = true:=decide_eq_true d6
     simp only [Option.some.injEq,Prod.mk.injEq] at hL
     obtain ⟨rfl,rfl⟩:=hL
     clear d6
     go_wp2
     go_ret2
     obtain ⟨v,u,hv⟩:=HWP.out
     exact ⟨_,rfl,Kd.N_nil _ _ _ _ _,hv.bel⟩
    ·rw [if_neg d6] at hL
     have d6b:decide (2147483647 < wrap64 (s.cut + x.f1)) = false:=decide_eq_false d6
     have HL:=Aside0.mk hL
     clear d6 hL
     go_wp2
     go_roundg gl
     case measure=>omega
     case rel=>exact ⟨i + 1,⟨s.out,s.add,wrap64 (s.cut + x.f1)⟩,by simp [wk],⟨by have:=HI.out;omega⟩,HWP,HL⟩
set_option maxRecDepth 100000 in
set_option maxHeartbeats 16000000 in
theorem tidy_calls (k:Nat) (A0:Option Addr) (c0:Nat) (l0:List (S95)) (r1:List (S95)) (r2:Int) (w:World) (hr0:Kd.C k95 w A0 l0.length l0) (hc0:l0.length ≤ c0) (h:tidyF k l0 = some (r1,r2)) :
 Calls Try.prog 85 #[.slice A0 l0.length c0] w fun e w'=>∃ v0_:Value,e = .returned (.tuple #[v0_,.int .i64 r2]) ∧ Kd.N k95 95 w' w.heap.size (fun _=>True) v0_ r1 ∧ Below w.heap.size w w':=by
 refine (tidy_callsN k A0 c0 l0 r1 r2 w hr0 hc0 h).mono ?_
 rintro e w' ⟨v,rfl,hN,hB⟩
 exact ⟨v,rfl,Kd.N_mono hN (fun _ _=>trivial),hB⟩
theorem drop_T91 (l:List S91) (i:Nat) (h:i < l.length):l.drop i = rd_T91 l (i:Int) :: l.drop (i + 1):=by
 rw [List.drop_eq_getElem_cons h]
 simp [rd_T91,List.getD_eq_getElem?_getD,List.getElem?_eq_getElem h]
theorem neq_cond (x y:S91):((!(x.f0.toList == y.f0.toList) || (!(x.f1.toList == y.f1.toList))) = true) ↔ x ≠ y:=by
 rw [Bool.or_eq_true,Bool.not_eq_true',Bool.not_eq_true',beq_eq_false_iff_ne,beq_eq_false_iff_ne]
 constructor
 ·rintro h rfl
  rcases h with h | h <;> exact h rfl
 ·intro h
  by_cases h0:x.f0.toList = y.f0.toList
  ·exact .inr (fun h1=>h (s91_ext h0 h1))
  ·exact .inl h0
theorem asame_l0 (a b:List S91) (hs:a.length ≤ 1099511627776) (hl:a.length = b.length) (d:Nat):∀ i:Nat,i + d = a.length → ∃ r,Ev (fun k=>attr_Same.l0 k a b (a.length:Int) (i:Int)) r ∧ (r = true ↔ a.drop i = b.drop i):=by
 induction d with
 | zero =>
  intro i hi
  refine ⟨true,Ev.step (f:=fun _=>some true) (fun k=>?_) (Ev.now true),⟨fun _=>by rw [List.drop_eq_nil_of_le (by omega),List.drop_eq_nil_of_le (by omega)],fun _=>rfl⟩⟩
  simp only [attr_Same.l0]
  rw [if_neg (by omega)]
 | succ d ih =>
  intro i hi
  obtain ⟨r,hr,hri⟩:=ih (i + 1) (by omega)
  have e:∀ k,attr_Same.l0 (k + 1) a b (a.length:Int) (i:Int) = if (!(((rd_T91 a (i:Int)).f0).toList == ((rd_T91 b (i:Int)).f0).toList) || (!(((rd_T91 a (i:Int)).f1).toList == ((rd_T91 b (i:Int)).f1).toList))) = true then some false else attr_Same.l0 k a b (a.length:Int) ((i + 1:Nat):Int):=fun k=>by
   simp only [attr_Same.l0]
   rw [if_pos (by omega),if_pos (by omega),if_pos (by omega),if_pos (by omega),wrap_up (by omega) (by omega)]
   rfl
  rw [drop_T91 a i (by omega),drop_T91 b i (by omega)]
  by_cases hx:rd_T91 a (i:Int) = rd_T91 b (i:Int)
  ·refine ⟨r,Ev.step (fun k=>by rw [e,if_neg (fun h=>(neq_cond _ _).1 h hx)]) hr,hri.trans ⟨fun h=>by rw [hx,h],fun h=>(List.cons.inj h).2⟩⟩
  ·exact ⟨false,Ev.step (f:=fun _=>some false) (fun k=>by rw [e,if_pos ((neq_cond _ _).2 hx)]) (Ev.now false),⟨(fun h=>by cases h),(fun h=>absurd (List.cons.inj h).1 hx)⟩⟩
theorem asame_ev (a b:List S91) (hs:a.length ≤ 1099511627776):∃ r,Ev (fun k=>attr_Same.f k a b) r ∧ (r = true ↔ a = b):=by
 by_cases hl:a.length = b.length
 ·obtain ⟨r,hr,hri⟩:=asame_l0 a b hs hl a.length 0 (by omega)
  refine ⟨r,Ev.congr (fun k=>?_) hr,hri⟩
  unfold attr_Same.f
  rw [if_pos (by omega)]
  rfl
 ·refine ⟨false,Ev.congr (fun k=>?_) (Ev.now false),⟨(fun h=>by cases h),(fun h=>absurd (congrArg List.length h) hl)⟩⟩
  unfold attr_Same.f
  rw [if_neg (by omega)]
def StepOK (s:S95):Prop :=
 (s.f0 = 0 ∧ 1 ≤ s.f1 ∧ s.f1 ≤ 2147483647 ∧ s.f3 = [] ∧ VA true s.f2) ∨ (s.f0 = 1 ∧ s.f1 = 0 ∧ s.f2 = [] ∧ s.f3 ≠ [] ∧ POK s.f3) ∨ (s.f0 = 2 ∧ 1 ≤ s.f1 ∧ s.f1 ≤ 2147483647 ∧ s.f3 = [] ∧ s.f2 = [])
def SSm (s:S95):Prop:=Small s.f2 ∧ FSmall s.f3
theorem va_nil (ch:Bool):VA ch []:=⟨(fun x hx=>by cases hx),List.Pairwise.nil⟩
theorem len_pos {α:Type} {l:List α}:(l.length:Int) > 0 ↔ l ≠ []:=by
 cases l with
 | nil=>simp
 | cons a l=>simp
theorem step_ev (s:S95) (hs:SSm s):∃ r:Int,Ev (fun k=>delta_step.f k s.f0 s.f1 s.f2 s.f3) r ∧ (r = 0 ↔ StepOK s):=by
 obtain ⟨c,hc,hci⟩:=chkc_ev s.f2 hs.1
 obtain ⟨p,hp,hpi⟩:=part_ev s.f3 hs.2
 have j1:∀ b:Bool,∃ r:Int,Ev (fun k=>delta_step.j1 k b s.f0 s.f1 s.f2 s.f3) r ∧ (r = 0 ↔ b = false ∧ 1 ≤ s.f1 ∧ s.f1 ≤ 2147483647 ∧ VA true s.f2):=by
  intro b
  cases b with
  | true=>exact ⟨4,Ev.step (f:=fun _=>some 4) (fun k=>by simp only [delta_step.j1];rw [if_pos trivial]) (Ev.now 4),by simp⟩
  | false =>
   by_cases h1:s.f1 < 1
   ·exact ⟨2,Ev.step (f:=fun _=>some 2) (fun k=>by simp only [delta_step.j1];rw [if_neg (by decide),if_pos h1]) (Ev.now 2),⟨fun h=>by omega,fun h=>by omega⟩⟩
   by_cases h2:s.f1 > 2147483647
   ·exact ⟨2,Ev.step (f:=fun _=>some 2) (fun k=>by simp only [delta_step.j1];rw [if_neg (by decide),if_neg h1,if_pos h2]) (Ev.now 2),⟨fun h=>by omega,fun h=>by omega⟩⟩
   exact ⟨c,Ev.step (fun k=>by simp only [delta_step.j1];rw [if_neg (by decide),if_neg h1,if_neg h2]) (Ev.bind hc (Ev.now c)),hci.trans ⟨fun h=>⟨rfl,by omega,by omega,h⟩,fun h=>h.2.2.2⟩⟩
 have j2:∀ b:Bool,∃ r:Int,Ev (fun k=>delta_step.j2 k b s.f0 s.f1 s.f2 s.f3) r ∧ (r = 0 ↔ b = false ∧ s.f3 ≠ [] ∧ POK s.f3):=by
  intro b
  cases b with
  | true=>exact ⟨4,Ev.step (f:=fun _=>some 4) (fun k=>by simp only [delta_step.j2];rw [if_pos trivial]) (Ev.now 4),by simp⟩
  | false =>
   by_cases h1:s.f3 = []
   ·exact ⟨11,Ev.step (f:=fun _=>some 11) (fun k=>by simp only [delta_step.j2];rw [if_neg (by decide),if_pos (by rw [h1];rfl)]) (Ev.now 11),⟨fun h=>by omega,fun h=>absurd h1 h.2.1⟩⟩
   ·exact ⟨p,Ev.step (fun k=>by simp only [delta_step.j2];rw [if_neg (by decide),if_neg (by have:=len_pos.2 h1;omega)]) (Ev.bind hp (Ev.now p)),hpi.trans ⟨fun h=>⟨rfl,h1,h⟩,fun h=>h.2.2⟩⟩
 have kc:∀ (f:Nat → Option Int),(∀ k,f (k + 1) = delta_step.j0 (k + 1) s.f0 true s.f0 s.f1 s.f2 s.f3) → (s.f0 = 0 ∨ s.f0 = 2) → ∃ r:Int,Ev f r ∧ (r = 0 ↔ StepOK s):=by
  intro f hf hk
  by_cases h3:s.f3 = []
  ·by_cases hcut:s.f0 = 2
   ·obtain ⟨r,hr,hri⟩:=j1 (decide ((s.f2.length:Int) > 0))
    refine ⟨r,Ev.step (fun k=>by rw [hf];simp only [delta_step.j0];rw [if_pos trivial,if_neg (by rw [h3];decide),if_pos hcut]) hr,hri.trans ⟨fun h=>?_,fun h=>?_⟩⟩
    ·have h2:s.f2 = []:=Classical.byContradiction (fun hn=>absurd h.1 (by rw [decide_eq_true (len_pos.2 hn)];decide))
     exact .inr (.inr ⟨hcut,h.2.1,h.2.2.1,h3,h2⟩)
    ·rcases h with h | h | h
     ·omega
     ·omega
     ·exact ⟨by rw [h.2.2.2.2];rfl,h.2.1,h.2.2.1,by rw [h.2.2.2.2];exact va_nil _⟩
   ·obtain ⟨r,hr,hri⟩:=j1 false
    refine ⟨r,Ev.step (fun k=>by rw [hf];simp only [delta_step.j0];rw [if_pos trivial,if_neg (by rw [h3];decide),if_neg hcut]) hr,hri.trans ⟨fun h=>.inl ⟨by omega,h.2.1,h.2.2.1,h3,h.2.2.2⟩,fun h=>?_⟩⟩
    rcases h with h | h | h
    ·exact ⟨rfl,h.2.1,h.2.2.1,h.2.2.2.2⟩
    ·omega
    ·omega
  ·obtain ⟨r,hr,hri⟩:=j1 true
   refine ⟨r,Ev.step (fun k=>by rw [hf];simp only [delta_step.j0];rw [if_pos trivial,if_pos (len_pos.2 h3)]) hr,hri.trans ⟨(fun h=>by cases h.1),fun h=>?_⟩⟩
   rcases h with h | h | h
   ·exact absurd h.2.2.2.1 h3
   ·omega
   ·exact absurd h.2.2.2.1 h3
 by_cases h0:s.f0 = 0
 ·exact kc _ (fun k=>by unfold delta_step.f;rw [if_pos h0,h0];rfl) (.inl h0)
 by_cases h2:s.f0 = 2
 ·exact kc _ (fun k=>by unfold delta_step.f;rw [if_neg h0,h2];rfl) (.inr h2)
 have e:∀ k,delta_step.f (k + 1) s.f0 s.f1 s.f2 s.f3 = if s.f0 = 1 then (if s.f1 = 0 then delta_step.j2 k (decide ((s.f2.length:Int) > 0)) s.f0 s.f1 s.f2 s.f3 else delta_step.j2 k true s.f0 s.f1 s.f2 s.f3) else some 8:=fun k=>by
  unfold delta_step.f
  rw [if_neg h0,show (s.f0 == 2) = false from beq_eq_false_iff_ne.mpr h2]
  simp only [delta_step.j0]
  rw [if_neg (by decide)]
 by_cases h1:s.f0 = 1
 ·by_cases hn:s.f1 = 0
  ·obtain ⟨r,hr,hri⟩:=j2 (decide ((s.f2.length:Int) > 0))
   refine ⟨r,Ev.step (fun k=>by rw [e,if_pos h1,if_pos hn]) hr,hri.trans ⟨fun h=>?_,fun h=>?_⟩⟩
   ·have h2:s.f2 = []:=Classical.byContradiction (fun hn=>absurd h.1 (by rw [decide_eq_true (len_pos.2 hn)];decide))
    exact .inr (.inl ⟨h1,hn,h2,h.2.1,h.2.2⟩)
   ·rcases h with h | h | h
    ·omega
    ·exact ⟨by rw [h.2.2.1];rfl,h.2.2.2.1,h.2.2.2.2⟩
    ·omega
  ·obtain ⟨r,hr,hri⟩:=j2 true
   refine ⟨r,Ev.step (fun k=>by rw [e,if_pos h1,if_neg hn]) hr,hri.trans ⟨(fun h=>by cases h.1),fun h=>?_⟩⟩
   rcases h with h | h | h <;> omega
 ·refine ⟨8,Ev.step (f:=fun _=>some 8) (fun k=>by rw [e,if_neg h1]) (Ev.now 8),⟨fun h=>by omega,fun h=>?_⟩⟩
  rcases h with h | h | h <;> omega
def Adj (p s:S95):Prop:=¬ (p.f0 = s.f0 ∧ (s.f0 ≠ 0 ∨ p.f2 = s.f2)) ∧ ¬ (p.f0 = 2 ∧ s.f0 = 1)
def ordOK:Option S95 → List S95 → Prop
 | _,[]=>True
 | p,s :: r=>(∀ q,p = some q → Adj q s) ∧ ordOK (some s) r
def oldS (s:S95):Int:=if s.f0 = 1 then 0 else s.f1
def newS (s:S95):Int:=if s.f0 = 2 then 0 else if s.f0 = 1 then (s.f3.length:Int) else s.f1
def old:List S95 → Int
 | []=>0
 | s :: r=>oldS s + old r
def new:List S95 → Int
 | []=>0
 | s :: r=>newS s + new r
structure DOK (d:List S95):Prop where
 ok:∀ s ∈ d,StepOK s
 ord:ordOK none d
 old:old d ≤ 2147483647
 new:new d ≤ 2147483647
def DSm (d:List S95):Prop:=d.length ≤ 1073741824 ∧ ∀ s ∈ d,SSm s
theorem rd95_mem {l:List S95} {i:Nat} (h:i < l.length):rd_T95 l (i:Int) ∈ l:=by
 simp only [rd_T95,Int.toNat_natCast,List.getD_eq_getElem?_getD,List.getElem?_eq_getElem h,Option.getD_some]
 exact List.getElem_mem h
theorem oldS_nn {s:S95} (h:StepOK s):0 ≤ oldS s ∧ oldS s ≤ 2147483647:=by
 unfold oldS
 rcases h with h | h | h <;> split <;> omega
theorem newS_nn {s:S95} (h:StepOK s) (hs:SSm s):0 ≤ newS s ∧ newS s ≤ 2147483647:=by
 have:=hs.2.1
 unfold newS
 rcases h with h | h | h
 ·rw [if_neg (by omega),if_neg (by omega)];omega
 ·rw [if_neg (by omega),if_pos h.1];omega
 ·rw [if_pos h.1];omega
theorem old_nn:∀ {d:List S95},(∀ s ∈ d,StepOK s) → 0 ≤ old d
 | [],_=>Int.le_refl _
 | s :: r,h=>by
  have h1:=oldS_nn (h s List.mem_cons_self)
  have h2:=old_nn (d:=r) (fun x hx=>h x (List.mem_cons_of_mem _ hx))
  rw [old]
  omega
theorem new_nn:∀ {d:List S95},(∀ s ∈ d,StepOK s) → (∀ s ∈ d,SSm s) → 0 ≤ new d
 | [],_,_=>Int.le_refl _
 | s :: r,h,hs=>by
  have h1:=newS_nn (h s List.mem_cons_self) (hs s List.mem_cons_self)
  have h2:=new_nn (d:=r) (fun x hx=>h x (List.mem_cons_of_mem _ hx)) (fun x hx=>hs x (List.mem_cons_of_mem _ hx))
  rw [new]
  omega
theorem mn_cap {a:Int}:mn a 2147483648 = if a ≤ 2147483648 then a else 2147483648:=by unfold mn;split <;> split <;> omega
def prev (d:List S95):Nat → Option S95
 | 0=>none
 | i + 1=>some (rd_T95 d (i:Int))
theorem adj_prev {d:List S95} {i:Nat} (h0:0 < i) (P:Prop):(∀ q,prev d i = some q → Adj q (rd_T95 d (i:Int))) ↔ Adj (rd_T95 d ((i:Int) - 1)) (rd_T95 d (i:Int)):=by
 obtain ⟨j,rfl⟩:∃ j,i = j + 1:=⟨i - 1,by omega⟩
 rw [show ((j + 1:Nat):Int) - 1 = (j:Int) by omega]
 exact ⟨fun h=>h _ rfl,fun h q hq=>by cases hq;exact h⟩
def RestOK (p:Option S95) (r:List S95) (b a:Int):Prop:=(∀ s ∈ r,StepOK s) ∧ ordOK p r ∧ b + old r ≤ 2147483647 ∧ a + new r ≤ 2147483647
theorem rest_cons {p:Option S95} {s:S95} {r:List S95} {b a:Int}:RestOK p (s :: r) b a ↔ StepOK s ∧ (∀ q,p = some q → Adj q s) ∧ RestOK (some s) r (b + oldS s) (a + newS s):=by
 unfold RestOK
 rw [ordOK,old,new]
 constructor
 ·rintro ⟨h1,⟨h2,h3⟩,h4,h5⟩
  exact ⟨h1 s List.mem_cons_self,h2,fun x hx=>h1 x (List.mem_cons_of_mem _ hx),h3,by omega,by omega⟩
 ·rintro ⟨h1,h2,h3,h4,h5,h6⟩
  exact ⟨fun x hx=>by rcases List.mem_cons.1 hx with rfl | hx;exact h1;exact h3 x hx,⟨h2,h4⟩,by omega,by omega⟩
theorem rest_cap {p:Option S95} {r:List S95} {b a b' a':Int} (hs:∀ s ∈ r,SSm s) (hb:b = b' ∨ (2147483647 < b ∧ 2147483647 < b')) (ha:a = a' ∨ (2147483647 < a ∧ 2147483647 < a')):RestOK p r b a ↔ RestOK p r b' a':=by
 unfold RestOK
 constructor
 ·rintro ⟨h1,h2,h3,h4⟩
  have:=old_nn h1
  have:=new_nn h1 hs
  exact ⟨h1,h2,by omega,by omega⟩
 ·rintro ⟨h1,h2,h3,h4⟩
  have:=old_nn h1
  have:=new_nn h1 hs
  exact ⟨h1,h2,by omega,by omega⟩
theorem size_is (s:S95):delta_size.f s.f0 s.f1 s.f2 s.f3 = some (if s.f0 = 1 then (s.f3.length:Int) else s.f1):=by
 unfold delta_size.f
 split <;> rfl
theorem w64 {i:Int} (h0:-4611686018427387904 ≤ i) (h:i ≤ 4611686018427387904):wrap64 i = i:=by unfold wrap64;omega
theorem check_l0 (d:List S95) (hs:DSm d) (n:Nat):∀ (i:Nat) (b a:Int),i + n = d.length → 0 ≤ b → b ≤ 2147483648 → 0 ≤ a → a ≤ 2147483648 →
 ∃ r:Int,Ev (fun k=>delta_Check.l0 k d b a d (d.length:Int) (i:Int)) r ∧ (r = 0 ↔ RestOK (prev d i) (d.drop i) b a):=by
 have hs1:=hs.1
 induction n with
 | zero =>
  intro i b a hi hb0 hb ha0 ha
  have e:∀ k,delta_Check.l0 (k + 1) d b a d (d.length:Int) (i:Int) = if b > 2147483647 then some 3 else if a > 2147483647 then some 3 else some 0:=fun k=>by
   simp only [delta_Check.l0]
   rw [if_neg (by omega)]
  rw [List.drop_eq_nil_of_le (by omega)]
  have hR:RestOK (prev d i) [] b a ↔ b ≤ 2147483647 ∧ a ≤ 2147483647:=⟨fun h=>by have:=h.2.2;simp [old,new] at this;exact this,fun h=>⟨(fun s hs=>by cases hs),trivial,by simp [old];exact h.1,by simp [new];exact h.2⟩⟩
  rw [hR]
  by_cases h1:b > 2147483647
  ·exact ⟨3,Ev.step (f:=fun _=>some 3) (fun k=>by rw [e,if_pos h1]) (Ev.now 3),⟨fun h=>by omega,fun h=>by omega⟩⟩
  by_cases h2:a > 2147483647
  ·exact ⟨3,Ev.step (f:=fun _=>some 3) (fun k=>by rw [e,if_neg h1,if_pos h2]) (Ev.now 3),⟨fun h=>by omega,fun h=>by omega⟩⟩
  exact ⟨0,Ev.step (f:=fun _=>some 0) (fun k=>by rw [e,if_neg h1,if_neg h2]) (Ev.now 0),⟨fun h=>by omega,fun h=>rfl⟩⟩
 | succ n ih =>
  intro i b a hi hb0 hb ha0 ha
  have hlt:i < d.length:=by omega
  have hsm:=hs.2 _ (rd95_mem hlt)
  rw [drop_T95 d i hlt]
  obtain ⟨r0,hr0,hri0⟩:=step_ev _ hsm
  obtain ⟨s,hsd⟩:∃ s,s = rd_T95 d (i:Int):=⟨_,rfl⟩
  rw [← hsd] at hsm hr0 hri0
  rw [rest_cons,← hsd]
  have hrs:∀ x ∈ d.drop (i + 1),SSm x:=fun x hx=>hs.2 x (List.mem_of_mem_drop hx)
  have j1:StepOK s → ∃ r:Int,Ev (fun k=>delta_Check.j1 k d b a d (d.length:Int) (i:Int) s.f0 s.f1 s.f2 s.f3) r ∧ (r = 0 ↔ RestOK (some s) (d.drop (i + 1)) (b + oldS s) (a + newS s)):=by
   intro hok
   have ho:=oldS_nn hok
   have hn:=newS_nn hok hsm
   have pe:prev d (i + 1) = some s:=by rw [prev,hsd]
   by_cases h1:s.f0 = 1
   ·have h2:¬ s.f0 = 2:=by omega
    have e1:oldS s = 0:=if_pos h1
    have e2:newS s = (s.f3.length:Int):=by unfold newS;rw [if_neg h2,if_pos h1]
    obtain ⟨r,hr,hri⟩:=ih (i + 1) b (mn (a + (s.f3.length:Int)) 2147483648) (by omega) hb0 hb (by rw [mn_cap];split <;> omega) (by rw [mn_cap];split <;> omega)
    refine ⟨r,Ev.step (fun k=>by
     simp only [delta_Check.j1]
     rw [if_pos h1,if_neg h2,size_is,Option.bind_some,if_pos h1,wrap_up (by omega) (by omega),w64 (by omega) (by omega)]
     rfl) hr,hri.trans ?_⟩
    rw [pe,e1,e2]
    exact rest_cap hrs (by omega) (by rw [mn_cap];split <;> omega)
   by_cases h2:s.f0 = 2
   ·have e1:oldS s = s.f1:=if_neg h1
    have e2:newS s = 0:=if_pos h2
    obtain ⟨r,hr,hri⟩:=ih (i + 1) (mn (b + s.f1) 2147483648) a (by omega) (by rw [mn_cap];split <;> omega) (by rw [mn_cap];split <;> omega) ha0 ha
    refine ⟨r,Ev.step (fun k=>by
     simp only [delta_Check.j1]
     rw [if_neg h1,if_pos h2,wrap_up (by omega) (by omega),w64 (by omega) (by omega)]
     rfl) hr,hri.trans ?_⟩
    rw [pe,e1,e2]
    exact rest_cap hrs (by rw [mn_cap];split <;> omega) (by omega)
   ·have e1:oldS s = s.f1:=if_neg h1
    have e2:newS s = s.f1:=by unfold newS;rw [if_neg h2,if_neg h1]
    obtain ⟨r,hr,hri⟩:=ih (i + 1) (mn (b + s.f1) 2147483648) (mn (a + s.f1) 2147483648) (by omega) (by rw [mn_cap];split <;> omega) (by rw [mn_cap];split <;> omega) (by rw [mn_cap];split <;> omega) (by rw [mn_cap];split <;> omega)
    refine ⟨r,Ev.step (fun k=>by
     simp only [delta_Check.j1]
     rw [if_neg h1,if_neg h2,size_is,Option.bind_some,if_neg h1,wrap_up (by omega) (by omega),w64 (i:=b + s.f1) (by omega) (by omega),w64 (by omega) (by omega)]
     rfl) hr,hri.trans ?_⟩
    rw [pe,e1,e2]
    exact rest_cap hrs (by rw [mn_cap];split <;> omega) (by rw [mn_cap];split <;> omega)
  have e0:∀ k,delta_Check.l0 (k + 1) d b a d (d.length:Int) (i:Int) = (delta_step.f k s.f0 s.f1 s.f2 s.f3).bind fun t=>if t = 0 then (if (i:Int) > 0 then
   (if (rd_T95 d ((i:Int) - 1)).f0 = s.f0 then (if s.f0 = 0 then (attr_Same.f k (rd_T95 d ((i:Int) - 1)).f2 s.f2).bind fun t=>(if t = true then some 5 else if (rd_T95 d ((i:Int) - 1)).f0 = 2 then (if s.f0 = 1 then some 5 else delta_Check.j1 k d b a d (d.length:Int) (i:Int) s.f0 s.f1 s.f2 s.f3) else delta_Check.j1 k d b a d (d.length:Int) (i:Int) s.f0 s.f1 s.f2 s.f3) else some 5)
    else (if (rd_T95 d ((i:Int) - 1)).f0 = 2 then (if s.f0 = 1 then some 5 else delta_Check.j1 k d b a d (d.length:Int) (i:Int) s.f0 s.f1 s.f2 s.f3) else delta_Check.j1 k d b a d (d.length:Int) (i:Int) s.f0 s.f1 s.f2 s.f3))
   else delta_Check.j1 k d b a d (d.length:Int) (i:Int) s.f0 s.f1 s.f2 s.f3) else some t:=fun k=>by
   simp only [delta_Check.l0]
   rw [if_pos (by omega),if_pos (by omega),if_pos (by omega),← hsd]
   by_cases h0:(i:Int) > 0
   ·rw [wrap_dn (by omega) (by omega),if_pos (show (0:Int) ≤ (i:Int) - 1 by omega),if_pos (show (i:Int) - 1 < (d.length:Int) by omega)]
   ·simp only [if_neg h0]
  have bad:∀ (c:Int),c ≠ 0 → Ev (fun k=>delta_Check.l0 k d b a d (d.length:Int) (i:Int)) c → ¬ (StepOK s ∧ (∀ q,prev d i = some q → Adj q s) ∧ RestOK (some s) (d.drop (i + 1)) (b + oldS s) (a + newS s)) →
   ∃ r:Int,Ev (fun k=>delta_Check.l0 k d b a d (d.length:Int) (i:Int)) r ∧ (r = 0 ↔ (StepOK s ∧ (∀ q,prev d i = some q → Adj q s) ∧ RestOK (some s) (d.drop (i + 1)) (b + oldS s) (a + newS s))):=fun c hc he hn=>⟨c,he,⟨fun h=>absurd h hc,fun h=>absurd h hn⟩⟩
  by_cases hz:r0 = 0
  rotate_left
  ·exact bad r0 hz (Ev.step e0 (Ev.bind hr0 (Ev.congr (fun k=>by rw [if_neg hz]) (Ev.now r0)))) (fun h=>hz (hri0.2 h.1))
  have hok:=hri0.1 hz
  subst hz
  obtain ⟨r,hr,hri⟩:=j1 hok
  by_cases hi0:i = 0
  ·subst hi0
   exact ⟨r,Ev.step e0 (Ev.bind hr0 (Ev.congr (fun k=>by rw [if_pos rfl,if_neg (by omega)]) hr)),hri.trans ⟨fun h=>⟨hok,(fun q hq=>by cases hq),h⟩,fun h=>h.2.2⟩⟩
  have hap:=adj_prev (d:=d) (i:=i) (by omega) True
  rw [← hsd] at hap
  rw [hap] at bad ⊢
  obtain ⟨p,hp⟩:∃ p,p = rd_T95 d ((i:Int) - 1):=⟨_,rfl⟩
  rw [← hp] at hap bad e0 ⊢
  have hpsm:SSm p:=by
   have:=hs.2 _ (rd95_mem (l:=d) (i:=i - 1) (by omega))
   rw [show ((i - 1:Nat):Int) = (i:Int) - 1 by omega,← hp] at this
   exact this
  have good:Adj p s → (∀ k,delta_Check.l0 (k + 1) d b a d (d.length:Int) (i:Int) = (delta_step.f k s.f0 s.f1 s.f2 s.f3).bind fun t=>if t = 0 then delta_Check.j1 k d b a d (d.length:Int) (i:Int) s.f0 s.f1 s.f2 s.f3 else some t) → ∃ r:Int,Ev (fun k=>delta_Check.l0 k d b a d (d.length:Int) (i:Int)) r ∧ (r = 0 ↔ (StepOK s ∧ Adj p s ∧ RestOK (some s) (d.drop (i + 1)) (b + oldS s) (a + newS s))) :=
   fun h1 h2=>⟨r,Ev.step h2 (Ev.bind hr0 (Ev.congr (fun k=>by rw [if_pos rfl]) hr)),hri.trans ⟨fun h=>⟨hok,h1,h⟩,fun h=>h.2.2⟩⟩
  have hpos:(i:Int) > 0:=by omega
  by_cases hk:p.f0 = s.f0
  ·by_cases h0:s.f0 = 0
   ·obtain ⟨c,hc,hci⟩:=asame_ev p.f2 s.f2 hpsm.1.1
    cases c with
    | true =>
     refine bad 5 (by decide) (Ev.step e0 (Ev.bind hr0 (Ev.congr (fun k=>by rw [if_pos rfl,if_pos hpos,if_pos hk,if_pos h0]) (Ev.bind hc (Ev.congr (fun k=>by rw [if_pos rfl]) (Ev.now 5)))))) (fun h=>h.2.1.1 ⟨hk,.inr (hci.1 rfl)⟩)
    | false =>
     have hne:p.f2 ≠ s.f2:=fun h=>by have:=hci.2 h;cases this
     refine ⟨r,Ev.step e0 (Ev.bind hr0 (Ev.congr (fun k=>by rw [if_pos rfl,if_pos hpos,if_pos hk,if_pos h0]) (Ev.bind hc (Ev.congr (fun k=>by rw [if_neg (by decide),if_neg (by omega)]) hr)))),hri.trans ⟨fun h=>⟨hok,⟨fun h=>?_,fun h=>by omega⟩,h⟩,fun h=>h.2.2⟩⟩
     rcases h.2 with h | h
     ·exact h h0
     ·exact hne h
   ·refine bad 5 (by decide) (Ev.step e0 (Ev.bind hr0 (Ev.congr (fun k=>by rw [if_pos rfl,if_pos hpos,if_pos hk,if_neg h0]) (Ev.now 5)))) (fun h=>h.2.1.1 ⟨hk,.inl h0⟩)
  ·by_cases hc2:p.f0 = 2 ∧ s.f0 = 1
   ·refine bad 5 (by decide) (Ev.step e0 (Ev.bind hr0 (Ev.congr (fun k=>by rw [if_pos rfl,if_pos hpos,if_neg hk,if_pos hc2.1,if_pos hc2.2]) (Ev.now 5)))) (fun h=>h.2.1.2 hc2)
   ·refine good ⟨fun h=>hk h.1,hc2⟩ (fun k=>?_)
    rw [e0]
    congr 1
    funext t
    by_cases ht:t = 0
    ·rw [if_pos ht,if_pos ht,if_pos hpos,if_neg hk]
     by_cases h2:p.f0 = 2
     ·rw [if_pos h2,if_neg (fun h=>hc2 ⟨h2,h⟩)]
     ·rw [if_neg h2]
    ·rw [if_neg ht,if_neg ht]
theorem dok_rest (d:List S95):RestOK none d 0 0 ↔ DOK d:=⟨fun h=>⟨h.1,h.2.1,by have:=h.2.2.1;omega,by have:=h.2.2.2;omega⟩,fun h=>⟨h.ok,h.ord,by have:=h.old;omega,by have:=h.new;omega⟩⟩
theorem check_ev (d:List S95) (hs:DSm d):∃ r:Int,Ev (fun k=>delta_Check.f k d) r ∧ (r = 0 ↔ DOK d):=by
 obtain ⟨r,hr,hri⟩:=check_l0 d hs d.length 0 0 0 (by omega) (by omega) (by omega) (by omega) (by omega)
 exact ⟨r,hr,hri.trans (dok_rest d)⟩
end Go.Proofs.Ytlcodfjlbhjkbaa.PDelta
end
section
namespace Go.Proofs.Ytlcodfjlbhjkbaa.PDelta
open Go.RowKit Go.Proofs.YtlcodfjlbhjkbaaW.PrintWords Go.Proofs.YtlcodfjlbhjkbaaW.PrintLast Go.Proofs.YtlcodfjlbhjkbaaW.PrintMore
end Go.Proofs.Ytlcodfjlbhjkbaa.PDelta
end
section
namespace Go.Proofs.Ytlcodfjlbhjkbaa.PDelta
open Go.RowKit Go.Proofs.YtlcodfjlbhjkbaaW.PrintWords Go.Proofs.YtlcodfjlbhjkbaaW.PrintLast Go.Proofs.YtlcodfjlbhjkbaaW.PrintMore
inductive Un where
 | keep (t:List S91)
 | cut
 | add (x:S26)
def us (s:S95):List Un:=if s.f0 = 0 then List.replicate s.f1.toNat (.keep s.f2) else if s.f0 = 1 then s.f3.map .add else List.replicate s.f1.toNat .cut
def units (d:List S95):List Un:=d.flatMap us
def app (t:List S91) (x:S26):S26:=⟨x.f0,x.f1,mrg rawE x.f2 t⟩
def run:List S26 → List Un → List S26 × List S26
 | f,[]=>([],f)
 | f,.add x :: u=>(x :: (run f u).1,(run f u).2)
 | [],.keep _ :: u=>run [] u
 | x :: f,.keep t :: u=>(app t x :: (run f u).1,(run f u).2)
 | [],.cut :: u=>run [] u
 | _ :: f,.cut :: u=>run f u
theorem units_nil:units [] = []:=rfl
theorem units_cons (s:S95) (d:List S95):units (s :: d) = us s ++ units d:=rfl
theorem units_app (a b:List S95):units (a ++ b) = units a ++ units b:=by simp [units]
theorem run_app (a b:List Un):∀ f:List S26,run f (a ++ b) = ((run f a).1 ++ (run (run f a).2 b).1,(run (run f a).2 b).2):=by
 induction a with
 | nil=>intro f;rfl
 | cons x a ih =>
  intro f
  cases x with
  | add x=>simp only [List.cons_append,run,ih]
  | keep t=>cases f <;> simp only [List.cons_append,run,ih]
  | cut=>cases f <;> simp only [List.cons_append,run,ih]
theorem run_keeps (t:List S91):∀ (n:Nat) (f:List S26),n ≤ f.length → run f (List.replicate n (.keep t)) = ((f.take n).map (app t),f.drop n)
 | 0,f,_=>by simp [run]
 | n + 1,[],h=>by simp at h
 | n + 1,x :: f,h=>by rw [List.replicate_succ,run,run_keeps t n f (by simpa using h)];simp
theorem run_cuts:∀ (n:Nat) (f:List S26),n ≤ f.length → run f (List.replicate n .cut) = ([],f.drop n)
 | 0,f,_=>by simp [run]
 | n + 1,[],h=>by simp at h
 | n + 1,x :: f,h=>by rw [List.replicate_succ,run,run_cuts n f (by simpa using h)];simp
theorem run_adds:∀ (l f:List S26),run f (l.map .add) = (l,f)
 | [],f=>rfl
 | x :: l,f=>by rw [List.map_cons,run,run_adds l f]
def LB (n:Nat) (f:List S26):Prop:=f.length ≤ n ∧ ∀ x ∈ f,x.f2.length ≤ n
theorem pok_mem {f:List S26}:POK f ↔ ∀ x ∈ f,ElemOK x:=by
 constructor
 ·intro h x hx
  obtain ⟨i,h0,h1,rfl⟩:=memf_rd hx
  exact h i h0 h1
 ·intro h j h0 h1
  exact h _ (rdf_mem h0 h1)
theorem va_small {ch:Bool} {l:List S91} (h:VA ch l) (hl:l.length ≤ 1099511627776):Small l:=by
 refine ⟨hl,fun x hx=>?_⟩
 obtain ⟨h1,h2⟩:=h.1 x hx
 have:=h1.2.1
 refine ⟨by omega,?_⟩
 rcases h2 with h2 | ⟨_,h2⟩
 ·have:=h2.2.1;omega
 ·omega
theorem fsmall {n:Nat} {f:List S26} (h:POK f) (hl:LB n f) (hn:n ≤ 1073741824):FSmall f:=by
 refine ⟨Nat.le_trans hl.1 hn,fun x hx=>?_⟩
 have h1:=hl.2 x hx
 exact ⟨va_small (pok_mem.1 h x hx).2 (by omega),by omega⟩
def DB (n:Nat) (d:List S95):Prop:=d.length ≤ n ∧ ∀ s ∈ d,s.f2.length ≤ n ∧ LB n s.f3
theorem stepok_small {n:Nat} {s:S95} (h:StepOK s) (h1:s.f2.length ≤ n) (h2:LB n s.f3) (hn:n ≤ 1073741824):SSm s:=by
 rcases h with h | h | h
 ·exact ⟨va_small h.2.2.2.2 (by omega),by rw [h.2.2.2.1];exact ⟨Nat.zero_le _,fun x hx=>by cases hx⟩⟩
 ·exact ⟨by rw [h.2.2.1];exact ⟨Nat.zero_le _,fun x hx=>by cases hx⟩,fsmall h.2.2.2.2 h2 hn⟩
 ·exact ⟨by rw [h.2.2.2.2];exact ⟨Nat.zero_le _,fun x hx=>by cases hx⟩,by rw [h.2.2.2.1];exact ⟨Nat.zero_le _,fun x hx=>by cases hx⟩⟩
theorem dsm {n:Nat} {d:List S95} (h:∀ s ∈ d,StepOK s) (hd:DB n d) (hn:n ≤ 1073741824):DSm d :=
 ⟨Nat.le_trans hd.1 hn,fun s hs=>stepok_small (h s hs) (hd.2 s hs).1 (hd.2 s hs).2 hn⟩
theorem us_keep {s:S95} (h:s.f0 = 0):us s = List.replicate s.f1.toNat (.keep s.f2):=if_pos h
theorem us_add {s:S95} (h:s.f0 = 1):us s = s.f3.map .add:=by unfold us;rw [if_neg (by omega),if_pos h]
theorem us_cut {s:S95} (h:s.f0 = 2):us s = List.replicate s.f1.toNat .cut:=by unfold us;rw [if_neg (by omega),if_neg (by omega)]
section
variable {w wr w1:World} {ga:Nat} {cs:Array Value} {out out':List S95} {adds adds':List S26} {v u v1 u1:Value}
end
def nold:List Un → Nat
 | []=>0
 | .add _ :: u=>nold u
 | .keep _ :: u=>nold u + 1
 | .cut :: u=>nold u + 1
def nnew:List Un → Nat
 | []=>0
 | .cut :: u=>nnew u
 | .keep _ :: u=>nnew u + 1
 | .add _ :: u=>nnew u + 1
theorem nold_app:∀ a b:List Un,nold (a ++ b) = nold a + nold b
 | [],b=>by simp [nold]
 | .add x :: a,b=>by simp only [List.cons_append,nold,nold_app a b]
 | .keep t :: a,b=>by simp only [List.cons_append,nold,nold_app a b];omega
 | .cut :: a,b=>by simp only [List.cons_append,nold,nold_app a b];omega
theorem nnew_app:∀ a b:List Un,nnew (a ++ b) = nnew a + nnew b
 | [],b=>by simp [nnew]
 | .add x :: a,b=>by simp only [List.cons_append,nnew,nnew_app a b];omega
 | .keep t :: a,b=>by simp only [List.cons_append,nnew,nnew_app a b];omega
 | .cut :: a,b=>by simp only [List.cons_append,nnew,nnew_app a b]
theorem nold_keeps (t:List S91):∀ n,nold (List.replicate n (.keep t)) = n
 | 0=>rfl
 | n + 1=>by rw [List.replicate_succ,nold,nold_keeps t n]
theorem nnew_keeps (t:List S91):∀ n,nnew (List.replicate n (.keep t)) = n
 | 0=>rfl
 | n + 1=>by rw [List.replicate_succ,nnew,nnew_keeps t n]
theorem nold_cuts:∀ n,nold (List.replicate n .cut) = n
 | 0=>rfl
 | n + 1=>by rw [List.replicate_succ,nold,nold_cuts n]
theorem nnew_cuts:∀ n,nnew (List.replicate n .cut) = 0
 | 0=>rfl
 | n + 1=>by rw [List.replicate_succ,nnew,nnew_cuts n]
theorem nold_adds:∀ l:List S26,nold (l.map .add) = 0
 | []=>rfl
 | x :: l=>by rw [List.map_cons,nold,nold_adds l]
theorem nnew_adds:∀ l:List S26,nnew (l.map .add) = l.length
 | []=>rfl
 | x :: l=>by rw [List.map_cons,nnew,nnew_adds l,List.length_cons]
theorem nold_le:∀ u:List Un,nold u ≤ u.length
 | []=>Nat.le_refl _
 | .add x :: u=>by have:=nold_le u;simp only [nold,List.length_cons];omega
 | .keep t :: u=>by have:=nold_le u;simp only [nold,List.length_cons];omega
 | .cut :: u=>by have:=nold_le u;simp only [nold,List.length_cons];omega
theorem nnew_le:∀ u:List Un,nnew u ≤ u.length
 | []=>Nat.le_refl _
 | .add x :: u=>by have:=nnew_le u;simp only [nnew,List.length_cons];omega
 | .keep t :: u=>by have:=nnew_le u;simp only [nnew,List.length_cons];omega
 | .cut :: u=>by have:=nnew_le u;simp only [nnew,List.length_cons];omega
theorem run_cuts':∀ (n:Nat) (f:List S26),run f (List.replicate n .cut) = ([],f.drop n)
 | 0,f=>by simp [run]
 | n + 1,[]=>by rw [List.replicate_succ,run,run_cuts' n []];simp
 | n + 1,x :: f=>by rw [List.replicate_succ,run,run_cuts' n f];simp
def costU:List Un → Nat
 | []=>0
 | .keep [] :: u=>costU u
 | .keep (_ :: _) :: u=>costU u + 1
 | .cut :: u=>costU u + 1
 | .add _ :: u=>costU u + 1
theorem costU_app:∀ a b:List Un,costU (a ++ b) = costU a + costU b
 | [],b=>by simp [costU]
 | .keep [] :: u,b=>by rw [List.cons_append,costU,costU,costU_app u b]
 | .keep (_ :: _) :: u,b=>by rw [List.cons_append,costU,costU,costU_app u b];omega
 | .cut :: u,b=>by rw [List.cons_append,costU,costU,costU_app u b];omega
 | .add _ :: u,b=>by rw [List.cons_append,costU,costU,costU_app u b];omega
structure E (a b:List Un):Prop where
 run:∀ f,run f a = run f b
 old:nold a = nold b
 new:nnew a = nnew b
 len:a.length = b.length
 cost:costU a = costU b
theorem E.refl (a:List Un):E a a:=⟨fun _=>rfl,rfl,rfl,rfl,rfl⟩
theorem E.symm {a b:List Un} (h:E a b):E b a:=⟨fun f=>(h.run f).symm,h.old.symm,h.new.symm,h.len.symm,h.cost.symm⟩
theorem E.trans {a b c:List Un} (h:E a b) (k:E b c):E a c:=⟨fun f=>(h.run f).trans (k.run f),h.old.trans k.old,h.new.trans k.new,h.len.trans k.len,h.cost.trans k.cost⟩
theorem E.app {a b c d:List Un} (h:E a b) (k:E c d):E (a ++ c) (b ++ d):=⟨fun f=>by rw [run_app,run_app,h.run,k.run],by rw [nold_app,nold_app,h.old,k.old],by rw [nnew_app,nnew_app,h.new,k.new],by rw [List.length_append,List.length_append,h.len,k.len],by rw [costU_app,costU_app,h.cost,k.cost]⟩
theorem E.swap (n:Nat) (l:List S26):E (List.replicate n .cut ++ l.map .add) (l.map .add ++ List.replicate n .cut) :=
 ⟨fun f=>by rw [run_app,run_app,run_cuts',run_adds,run_adds,run_cuts'];simp,by rw [nold_app,nold_app];omega,by rw [nnew_app,nnew_app];omega,by rw [List.length_append,List.length_append];omega,by rw [costU_app,costU_app];omega⟩
theorem us_len {s:S95} (h:StepOK s):1 ≤ (us s).length ∧ s.f1.toNat ≤ (us s).length ∧ s.f3.length ≤ (us s).length:=by
 rcases h with h | h | h
 ·rw [us_keep h.1,List.length_replicate,h.2.2.2.1];simp;omega
 ·rw [us_add h.1,List.length_map]
  have:=List.length_pos_iff.2 h.2.2.2.1
  omega
 ·rw [us_cut h.1,List.length_replicate,h.2.2.2.1];simp;omega
theorem oldS_us {s:S95} (h:StepOK s):oldS s = (nold (us s):Int):=by
 rcases h with h | h | h
 ·rw [us_keep h.1,nold_keeps];unfold oldS;rw [if_neg (by omega)];omega
 ·rw [us_add h.1,nold_adds];unfold oldS;rw [if_pos h.1];rfl
 ·rw [us_cut h.1,nold_cuts];unfold oldS;rw [if_neg (by omega)];omega
theorem newS_us {s:S95} (h:StepOK s):newS s = (nnew (us s):Int):=by
 rcases h with h | h | h
 ·rw [us_keep h.1,nnew_keeps];unfold newS;rw [if_neg (by omega),if_neg (by omega)];omega
 ·rw [us_add h.1,nnew_adds];unfold newS;rw [if_neg (by omega),if_pos h.1]
 ·rw [us_cut h.1,nnew_cuts];unfold newS;rw [if_pos h.1];rfl
theorem old_units:∀ {d:List S95},(∀ s ∈ d,StepOK s) → old d = (nold (units d):Int)
 | [],_=>rfl
 | s :: d,h=>by
  rw [old,units_cons,nold_app,oldS_us (h s List.mem_cons_self),old_units (fun x hx=>h x (List.mem_cons_of_mem _ hx))]
  omega
theorem new_units:∀ {d:List S95},(∀ s ∈ d,StepOK s) → new d = (nnew (units d):Int)
 | [],_=>rfl
 | s :: d,h=>by
  rw [new,units_cons,nnew_app,newS_us (h s List.mem_cons_self),new_units (fun x hx=>h x (List.mem_cons_of_mem _ hx))]
  omega
theorem units_len:∀ {d:List S95},(∀ s ∈ d,StepOK s) → d.length ≤ (units d).length
 | [],_=>Nat.le_refl _
 | s :: d,h=>by
  have h1:=us_len (h s List.mem_cons_self)
  have h2:=units_len (d:=d) (fun x hx=>h x (List.mem_cons_of_mem _ hx))
  rw [units_cons,List.length_append,List.length_cons]
  omega
theorem units_mem:∀ {d:List S95},(∀ s ∈ d,StepOK s) → ∀ s ∈ d,(us s).length ≤ (units d).length
 | [],_,s,hs=>by cases hs
 | x :: d,h,s,hs=>by
  rw [units_cons,List.length_append]
  rcases List.mem_cons.1 hs with rfl | hs
  ·omega
  ·have:=units_mem (d:=d) (fun x hx=>h x (List.mem_cons_of_mem _ hx)) s hs
   omega
theorem ord_snoc (x:S95):∀ (l:List S95) (p:Option S95),ordOK p (l ++ [x]) ↔ ordOK p l ∧ ∀ q,(l.getLast?.or p) = some q → Adj q x
 | [],p=>by simp [ordOK]
 | [y],p=>by simp [ordOK]
 | y :: z :: l,p=>by
  have:(z :: l).getLast?.or (some y) = (y :: z :: l).getLast?.or p:=by simp [List.getLast?_cons_cons,List.getLast?_cons]
  show ((∀ q,p = some q → Adj q y) ∧ ordOK (some y) ((z :: l) ++ [x])) ↔ ((∀ q,p = some q → Adj q y) ∧ ordOK (some y) (z :: l)) ∧ _
  rw [ord_snoc x (z :: l) (some y),this,and_assoc]
def wu (s:WD):List Un:=units s.out ++ s.add.map .add ++ List.replicate s.cut.toNat .cut
def SAt (A:Nat) (s:S95):Prop:=s.f2.length ≤ A ∧ ∀ y ∈ s.f3,y.f2.length ≤ A
structure WF (A:Nat) (s:WD):Prop where
 ok:∀ x ∈ s.out,StepOK x
 ord:ordOK none s.out
 last:∀ x,s.out.getLast? = some x → x.f0 = 0
 add:POK s.add
 cut:0 ≤ s.cut
 att:∀ x ∈ s.out,SAt A x
 atta:∀ y ∈ s.add,y.f2.length ≤ A
theorem WF.nil (A:Nat):WF A ⟨[],[],0⟩:=⟨(fun x hx=>by cases hx),trivial,(fun x hx=>by cases hx),(fun j h0 h1=>by simp at h1;omega),Int.le_refl _,(fun x hx=>by cases hx),(fun x hx=>by cases hx)⟩
structure FO (A:Nat) (o:List S95):Prop where
 ok:∀ x ∈ o,StepOK x
 ord:ordOK none o
 att:∀ x ∈ o,SAt A x
theorem FO.dok {A:Nat} {o:List S95} (h:FO A o) (hl:(units o).length ≤ 2147483647):DOK o:=by
 have h1:=nold_le (units o)
 have h2:=nnew_le (units o)
 exact ⟨h.ok,h.ord,by rw [old_units h.ok];omega,by rw [new_units h.ok];omega⟩
theorem FO.db {A n:Nat} {o:List S95} (h:FO A o) (hl:(units o).length ≤ n) (ha:A ≤ n):DB n o:=by
 refine ⟨Nat.le_trans (units_len h.ok) hl,fun s hs=>⟨Nat.le_trans (h.att s hs).1 ha,?_,fun y hy=>Nat.le_trans ((h.att s hs).2 y hy) ha⟩⟩
 have h1:=units_mem h.ok s hs
 have h2:=us_len (h.ok s hs)
 omega
theorem wu_len (s:WD):(wu s).length = (units s.out).length + s.add.length + s.cut.toNat:=by simp [wu];omega
theorem flush_spec {A:Nat} {s:WD} (h:WF A s) (hl:(wu s).length ≤ 2147483647):FO A (flushD s.out s.add s.cut) ∧ units (flushD s.out s.add s.cut) = wu s ∧ (s.add = [] → s.cut = 0 → flushD s.out s.add s.cut = s.out) ∧
 (flushD s.out s.add s.cut).length ≤ s.out.length + 2:=by
 rw [wu_len] at hl
 have hcut:=h.cut
 have h1:FO A (addD s.out s.add) ∧ units (addD s.out s.add) = units s.out ++ s.add.map .add ∧ (∀ q,(addD s.out s.add).getLast? = some q → q.f0 ≠ 2):=by
  by_cases ha:0 < s.add.length
  ·have e:addD s.out s.add = s.out ++ [⟨1,0,[],s.add⟩]:=if_pos ha
   have hne:s.add ≠ []:=fun h=>by rw [h] at ha;cases ha
   rw [e]
   refine ⟨⟨fun x hx=>?_,(ord_snoc _ _ _).2 ⟨h.ord,fun q hq=>?_⟩,fun x hx=>?_⟩,?_,fun q hq=>?_⟩
   ·rcases List.mem_append.1 hx with hx | hx
    ·exact h.ok x hx
    ·rw [List.mem_singleton.1 hx];exact .inr (.inl ⟨rfl,rfl,rfl,hne,h.add⟩)
   ·rw [Option.or_none] at hq
    have:=h.last q hq
    exact ⟨fun h=>by have:=h.1;simp only at this;omega,fun h=>by omega⟩
   ·rcases List.mem_append.1 hx with hx | hx
    ·exact h.att x hx
    ·rw [List.mem_singleton.1 hx];exact ⟨Nat.zero_le _,h.atta⟩
   ·rw [units_app,units_cons,units_nil,List.append_nil];rfl
   ·rw [List.getLast?_append] at hq
    simp at hq
    rw [← hq]
    show (1:Int) ≠ 2
    decide
  ·have e:addD s.out s.add = s.out:=if_neg ha
   have hne:s.add = []:=List.eq_nil_of_length_eq_zero (by omega)
   rw [e]
   exact ⟨⟨h.ok,h.ord,h.att⟩,by rw [hne];simp,fun q hq=>by have:=h.last q hq;omega⟩
 have hlen1:(addD s.out s.add).length ≤ s.out.length + 1:=by unfold addD;split <;> simp
 refine ⟨?_,?_,?_,?_⟩
 ·unfold flushD cutD
  split
  ·refine ⟨fun x hx=>?_,(ord_snoc _ _ _).2 ⟨h1.1.ord,fun q hq=>?_⟩,fun x hx=>?_⟩
   ·rcases List.mem_append.1 hx with hx | hx
    ·exact h1.1.ok x hx
    ·rw [List.mem_singleton.1 hx];exact .inr (.inr ⟨rfl,by show 1 ≤ s.cut;omega,by show s.cut ≤ 2147483647;omega,rfl,rfl⟩)
   ·rw [Option.or_none] at hq
    have:=h1.2.2 q hq
    exact ⟨fun h=>by have:=h.1;simp only at this;omega,fun h=>by have:=h.2;simp only at this;omega⟩
   ·rcases List.mem_append.1 hx with hx | hx
    ·exact h1.1.att x hx
    ·rw [List.mem_singleton.1 hx];exact ⟨Nat.zero_le _,fun y hy=>by cases hy⟩
  ·exact h1.1
 ·unfold flushD cutD wu
  split
  ·rw [units_app,h1.2.1,units_cons,units_nil,List.append_nil];rfl
  ·rw [h1.2.1,show s.cut.toNat = 0 by omega];simp
 ·intro ha hc
  unfold flushD cutD addD
  rw [ha,hc]
  rfl
 ·unfold flushD cutD
  split
  ·rw [List.length_append,List.length_singleton];omega
  ·omega
theorem keepO_false (o:List S95) (n:Int) (t:List S91):keepO o n t false = o ++ [⟨0,n,t,[]⟩]:=rfl
theorem last_split {o:List S95} (h:0 < o.length):∃ o' x,o = o' ++ [x] ∧ rd_T95 o ((o.length:Int) - 1) = x:=by
 refine ⟨o.dropLast,o.getLast (fun h'=>by rw [h'] at h;cases h),(List.dropLast_concat_getLast _).symm,?_⟩
 rw [show (o.length:Int) - 1 = ((o.length - 1:Nat):Int) by omega]
 simp only [rd_T95,Int.toNat_natCast,List.getD_eq_getElem?_getD,List.getElem?_eq_getElem (show o.length - 1 < o.length by omega),Option.getD_some,List.getLast_eq_getElem]
def Joins (o:List S95) (t:List S91):Prop:=∃ o' x,o = o' ++ [x] ∧ rd_T95 o ((o.length:Int) - 1) = x ∧ x.f0 = 0 ∧ x.f2 = t
theorem keep_core {A:Nat} {s:WD} (n:Int) (t:List S91) (h:WF A s) (hv:VA true t) (ht:t.length ≤ A) (hA:A ≤ 1073741824) (h0:1 ≤ n) (hl:((wu s).length:Int) + n ≤ 1073741824)
 (b:Bool) (hbi:b = true ↔ Joins (flushD s.out s.add s.cut) t):WF A ⟨keepO (flushD s.out s.add s.cut) n t b,[],0⟩ ∧ wu ⟨keepO (flushD s.out s.add s.cut) n t b,[],0⟩ = wu s ++ List.replicate n.toNat (.keep t):=by
 obtain ⟨f1,f2,f3,f4⟩:=flush_spec h (by omega)
 have hol:=units_len h.ok
 have hwl:=wu_len s
 obtain ⟨o,ho⟩:∃ o,o = flushD s.out s.add s.cut:=⟨_,rfl⟩
 rw [← ho] at f1 f2 f3 f4 hbi ⊢
 have pnil:POK []:=fun j h0 h1=>by simp at h1;omega
 cases b with
 | true =>
  obtain ⟨o',x,e,ex,hk,hx⟩:=hbi.1 rfl
  have hxok:=f1.ok x (by rw [e];simp)
  have hxat:=f1.att x (by rw [e];simp)
  have hx':1 ≤ x.f1 ∧ x.f3 = []:=by rcases hxok with h | h | h <;> first | exact ⟨h.2.1,h.2.2.2.1⟩ | omega
  have hxl:x.f1.toNat ≤ (wu s).length:=by
   have h1:=units_mem f1.ok x (by rw [e];simp)
   have h2:=us_len hxok
   rw [f2] at h1
   omega
  have e2:keepO o n t true = o' ++ [⟨0,x.f1 + n,t,[]⟩]:=by
   rw [keepO,ex,e,w64 (by omega) (by omega),hk,hx,hx'.2]
   rw [List.length_append,List.length_singleton,show o'.length + 1 - 1 = o'.length by omega,List.set_append_right _ _ (Nat.le_refl _)]
   simp
  have hord:=f1.ord
  rw [e,ord_snoc] at hord
  have hst:StepOK ⟨0,x.f1 + n,t,[]⟩:=.inl ⟨rfl,by show 1 ≤ x.f1 + n;omega,by show x.f1 + n ≤ 2147483647;omega,rfl,hv⟩
  refine ⟨⟨fun y hy=>?_,?_,fun y hy=>?_,pnil,Int.le_refl _,fun y hy=>?_,fun y hy=>by cases hy⟩,?_⟩
  ·simp only [e2] at hy
   rcases List.mem_append.1 hy with hy | hy
   ·exact f1.ok y (by rw [e];exact List.mem_append_left _ hy)
   ·rw [List.mem_singleton.1 hy];exact hst
  ·simp only [e2]
   refine (ord_snoc _ _ _).2 ⟨hord.1,fun q hq=>?_⟩
   have:=hord.2 q hq
   exact ⟨fun h=>this.1 ⟨by have:=h.1;simp only at this;omega,by rcases h.2 with h | h;exact absurd rfl h;exact .inr (by rw [hx];exact h)⟩,fun h=>by have:=h.2;simp only at this;omega⟩
  ·simp only [e2] at hy
   rw [List.getLast?_append] at hy
   simp at hy
   rw [← hy]
  ·simp only [e2] at hy
   rcases List.mem_append.1 hy with hy | hy
   ·exact f1.att y (by rw [e];exact List.mem_append_left _ hy)
   ·rw [List.mem_singleton.1 hy];exact ⟨ht,fun z hz=>by cases hz⟩
  ·rw [← f2,wu,e2,e,units_app,units_app,units_cons,units_cons,units_nil,us_keep hk,us_keep (s:=⟨0,x.f1 + n,t,[]⟩) rfl,hx]
   simp only [List.map_nil,List.append_nil,Int.toNat_zero,List.replicate_zero,List.append_assoc]
   rw [List.replicate_append_replicate,show (x.f1 + n).toNat = x.f1.toNat + n.toNat by omega]
 | false =>
  have hst:StepOK ⟨0,n,t,[]⟩:=.inl ⟨rfl,h0,by show n ≤ 2147483647;omega,rfl,hv⟩
  refine ⟨⟨fun y hy=>?_,?_,fun y hy=>?_,pnil,Int.le_refl _,fun y hy=>?_,fun y hy=>by cases hy⟩,?_⟩
  ·simp only [keepO_false] at hy
   rcases List.mem_append.1 hy with hy | hy
   ·exact f1.ok y hy
   ·rw [List.mem_singleton.1 hy];exact hst
  ·simp only [keepO_false]
   refine (ord_snoc _ _ _).2 ⟨f1.ord,fun q hq=>?_⟩
   rw [Option.or_none] at hq
   refine ⟨fun h=>?_,fun h=>by have:=h.2;simp only at this;omega⟩
   have hz:0 < o.length:=by
    cases o with
    | nil=>cases hq
    | cons a l=>simp
   obtain ⟨o',x,e,ex⟩:=last_split hz
   have:x = q:=by rw [e,List.getLast?_append] at hq;simpa using hq
   subst this
   rcases h.2 with h' | h'
   ·exact h' rfl
   ·have:=hbi.2 ⟨o',x,e,ex,h.1,h'⟩
    cases this
  ·simp only [keepO_false] at hy
   rw [List.getLast?_append] at hy
   simp at hy
   rw [← hy]
  ·simp only [keepO_false] at hy
   rcases List.mem_append.1 hy with hy | hy
   ·exact f1.att y hy
   ·rw [List.mem_singleton.1 hy];exact ⟨ht,fun z hz=>by cases hz⟩
  ·rw [← f2,wu,keepO_false,units_app,units_cons,units_nil,us_keep (s:=⟨0,n,t,[]⟩) rfl]
   simp
theorem keep_spec {A:Nat} {s:WD} (n:Int) (t:List S91) (h:WF A s) (hv:VA true t) (ht:t.length ≤ A) (hA:A ≤ 1073741824) (h0:1 ≤ n) (hl:((wu s).length:Int) + n ≤ 1073741824) :
 ∃ s',Ev (fun k=>keepF k s n t) s' ∧ WF A s' ∧ wu s' = wu s ++ List.replicate n.toNat (.keep t):=by
 obtain ⟨f1,f2,f3,f4⟩:=flush_spec h (by omega)
 have hol:=units_len h.ok
 have hwl:=wu_len s
 have core:=keep_core n t h hv ht hA h0 hl
 obtain ⟨o,ho⟩:∃ o,o = flushD s.out s.add s.cut:=⟨_,rfl⟩
 rw [← ho] at f1 f2 f3 f4 core
 obtain ⟨b,hb,hbi⟩:∃ b,Ev (fun k=>keepB k o t) b ∧ (b = true ↔ Joins o t):=by
  by_cases hz:0 < o.length
  ·obtain ⟨o',x,e,ex⟩:=last_split hz
   by_cases hk:x.f0 = 0
   ·obtain ⟨b,hb,hbi⟩:=asame_ev x.f2 t (by have:=(f1.att x (by rw [e];simp)).1;omega)
    refine ⟨b,Ev.congr (fun k=>by unfold keepB;rw [if_pos hz,ex,if_pos hk]) hb,hbi.trans ⟨fun h=>⟨o',x,e,ex,hk,h⟩,fun ⟨o2,x2,e2,ex2,_,h⟩=>by rw [← ex,ex2];exact h⟩⟩
   ·exact ⟨false,Ev.congr (fun k=>by unfold keepB;rw [if_pos hz,ex,if_neg hk]) (Ev.now false),⟨(fun h=>by cases h),fun ⟨o2,x2,e2,ex2,h,_⟩=>absurd (by rw [← ex,ex2];exact h) hk⟩⟩
  ·exact ⟨false,Ev.congr (fun k=>by unfold keepB;rw [if_neg hz]) (Ev.now false),⟨(fun h=>by cases h),fun ⟨o2,x2,e2,_⟩=>absurd (by rw [e2];simp) hz⟩⟩
 exact ⟨⟨keepO o n t b,[],0⟩,Ev.congr (fun k=>by unfold keepF;rw [if_neg (by omega),if_neg (by omega),← ho]) (Ev.bind hb (Ev.now _)),core b hbi⟩
theorem pok_app {a b:List S26} (ha:POK a) (hb:POK b):POK (a ++ b):=pok_mem.2 (fun x hx=>by rcases List.mem_append.1 hx with hx | hx;exact pok_mem.1 ha x hx;exact pok_mem.1 hb x hx)
theorem elems_spec {A:Nat} {s:WD} (l:List S26) (h:WF A s) (hp:POK l) (hat:∀ y ∈ l,y.f2.length ≤ A) (hA:A ≤ 1073741824) (hl:(wu s).length + l.length ≤ 1073741824) :
 ∃ s',Ev (fun k=>elemsF k s l) s' ∧ WF A s' ∧ E (wu s') (wu s ++ l.map .add):=by
 have hwl:=wu_len s
 have hfs:FSmall l:=fsmall (n:=1073741824) hp ⟨by omega,fun x hx=>Nat.le_trans (hat x hx) hA⟩ (Nat.le_refl _)
 refine ⟨⟨s.out,s.add ++ l,s.cut⟩,Ev.bind (copy_ev l hfs) (Ev.congr (fun k=>by rw [if_neg (by omega)]) (Ev.now _)),⟨h.ok,h.ord,h.last,pok_app h.add hp,h.cut,h.att,fun y hy=>?_⟩,?_⟩
 ·rcases List.mem_append.1 hy with hy | hy
  ·exact h.atta y hy
  ·exact hat y hy
 ·have:=(E.refl (units s.out ++ s.add.map .add)).app (E.swap s.cut.toNat l).symm
  simpa [wu,List.append_assoc] using this
theorem cut_spec {A:Nat} {s:WD} (n:Int) (h:WF A s) (h0:0 ≤ n):WF A ⟨s.out,s.add,s.cut + n⟩ ∧ wu ⟨s.out,s.add,s.cut + n⟩ = wu s ++ List.replicate n.toNat .cut:=by
 have:=h.cut
 refine ⟨⟨h.ok,h.ord,h.last,h.add,by show 0 ≤ s.cut + n;omega,h.att,h.atta⟩,?_⟩
 simp only [wu,List.append_assoc,List.replicate_append_replicate]
 rw [show (s.cut + n).toNat = s.cut.toNat + n.toNat by omega]
theorem done_spec {A:Nat} {s:WD} (h:WF A s) (hA:A ≤ 1073741824) (hl:(wu s).length ≤ 1073741824):∃ o,Ev (fun k=>doneD k s) (o,0) ∧ FO A o ∧ units o = wu s:=by
 obtain ⟨f1,f2,f3,f4⟩:=flush_spec h (by omega)
 have hol:=units_len h.ok
 have hwl:=wu_len s
 have hd:=f1.dok (by rw [f2];omega)
 obtain ⟨r,hr,hri⟩:=check_ev _ (dsm f1.ok (f1.db (n:=1073741824) (by rw [f2];omega) hA) (Nat.le_refl _))
 obtain rfl:=hri.2 hd
 exact ⟨_,Ev.congr (fun k=>by unfold doneD;rw [if_neg (by omega)]) (Ev.bind hr (Ev.congr (fun k=>by rw [if_neg (by decide)]) (Ev.now _))),f1,f2⟩
end Go.Proofs.Ytlcodfjlbhjkbaa.PDelta
end
section
namespace Go.Proofs.Ytlcodfjlbhjkbaa.PDelta
open Go.RowKit Go.Proofs.YtlcodfjlbhjkbaaW.PrintWords Go.Proofs.YtlcodfjlbhjkbaaW.PrintLast Go.Proofs.YtlcodfjlbhjkbaaW.PrintMore
end Go.Proofs.Ytlcodfjlbhjkbaa.PDelta
end
section
namespace Go.Proofs.Ytlcodfjlbhjkbaa.PDelta
open Go.RowKit Go.Proofs.YtlcodfjlbhjkbaaW.PrintWords Go.Proofs.YtlcodfjlbhjkbaaW.PrintLast Go.Proofs.YtlcodfjlbhjkbaaW.PrintMore
section
variable {w wr w1:World} {ga gd n:Nat} {raw:List Int} {As As':List (List S26)} {Cs Cs':List Bool} {Ts Ts':List (List S91)} {cA cB cC vA vB vC u u1 v1 lv:Value} {al al':List S26} {l:List S91}
end
theorem info22:(Try.prog.info? 22).map (fun i=>(i.zero,i.size,i.bytes)) = some (some (.slice none 0 0),1,24):=by kernel_rfl
theorem info4:(Try.prog.info? 4).map (fun i=>(i.zero,i.size,i.bytes)) = some (some (.bool false),1,1):=by kernel_rfl
theorem info24:(Try.prog.info? 24).map (fun i=>(i.zero,i.size,i.bytes)) = some (some (.slice none 0 0),1,24):=by kernel_rfl
end Go.Proofs.Ytlcodfjlbhjkbaa.PDelta
end
section
namespace Go.Proofs.Ytlcodfjlbhjkbaa.PDelta
open Go.RowKit Go.Proofs.YtlcodfjlbhjkbaaW.PrintWords Go.Proofs.YtlcodfjlbhjkbaaW.PrintLast Go.Proofs.YtlcodfjlbhjkbaaW.PrintMore
end Go.Proofs.Ytlcodfjlbhjkbaa.PDelta
end
section
namespace Go.Proofs.Ytlcodfjlbhjkbaa.PDelta
open Go.RowKit Go.Proofs.YtlcodfjlbhjkbaaW.PrintWords Go.Proofs.YtlcodfjlbhjkbaaW.PrintLast Go.Proofs.YtlcodfjlbhjkbaaW.PrintMore
section
variable {w wr w1:World} {g:Nat} {As As':List (List S26)} {Cs Cs':List Bool} {Ts Ts':List (List S91)} {cA cB cC vA vB vC v1:Value}
theorem own_fresh {v:Value} {n k:Nat} (h:∀ k,v.ownBlock = some k → k < n) (hk:n ≤ k):some k ≠ v.ownBlock:=fun e=>by have:=h k e.symm;omega
end
section
variable {w wr w1:World} {g gs:Nat} {As As':List (List S26)} {Cs Cs':List Bool} {Ts Ts':List (List S91)} {cA cB cC vA vB vC v1:Value} {x:S95} {A2 A3:Option Addr} {c2 c3:Nat}
end
section
variable {w wr w1:World} {g gs ba ca:Nat} {As:List (List S26)} {Cs:List Bool} {Ts:List (List S91)} {cA cB cC vA vB vC:Value} {x:S95} {A2 A3:Option Addr} {c2 c3:Nat}
end
theorem fk_slice {α:Type} {d:Kd α} {e:Nat} {W:World} {ok:Nat → Prop} {A:Option Addr} {xs:List α} {c:Nat} (h:Kd.F d W ok A xs.length xs) (hc:xs.length ≤ c):Kd.FK (Kd.slice e d) W ok xs [.slice A xs.length c] :=
 fun W' hW=>⟨A,c,rfl,hc,h W' hW⟩
end Go.Proofs.Ytlcodfjlbhjkbaa.PDelta
end
section
namespace Go.Proofs.Ytlcodfjlbhjkbaa.PDelta
open Go.RowKit Go.Proofs.YtlcodfjlbhjkbaaW.PrintWords Go.Proofs.YtlcodfjlbhjkbaaW.PrintLast Go.Proofs.YtlcodfjlbhjkbaaW.PrintMore
open Go.RowKit Go.Proofs.YtlcodfjlbhjkbaaW.PrintWords Go.Proofs.YtlcodfjlbhjkbaaW.PrintLast Go.Proofs.YtlcodfjlbhjkbaaW.PrintMore
open Go.RowKit Go.Proofs.YtlcodfjlbhjkbaaW.PrintWords Go.Proofs.YtlcodfjlbhjkbaaW.PrintLast Go.Proofs.YtlcodfjlbhjkbaaW.PrintMore
end Go.Proofs.Ytlcodfjlbhjkbaa.PDelta
end
section
namespace Go.Proofs.Ytlcodfjlbhjkbaa.PDelta
open Go.RowKit Go.Proofs.YtlcodfjlbhjkbaaW.PrintWords Go.Proofs.YtlcodfjlbhjkbaaW.PrintLast Go.Proofs.YtlcodfjlbhjkbaaW.PrintMore
attribute [local go_sem] max2_int min2_int max_two min_two max_three min_three max_four min_four
attribute [local go_sem high] Go.Proofs.Ytlcodfjlbhjkbaa.Ord.leq_str Go.Proofs.Ytlcodfjlbhjkbaa.Ord.gtr_str Go.Proofs.Ytlcodfjlbhjkbaa.Ord.geq_str
end Go.Proofs.Ytlcodfjlbhjkbaa.PDelta
end
section
namespace Go.Proofs.Ytlcodfjlbhjkbaa.PDelta
open Go.RowKit Go.Proofs.YtlcodfjlbhjkbaaW.PrintWords Go.Proofs.YtlcodfjlbhjkbaaW.PrintLast Go.Proofs.YtlcodfjlbhjkbaaW.PrintMore
end Go.Proofs.Ytlcodfjlbhjkbaa.PDelta
end
section
namespace Go.Proofs.Ytlcodfjlbhjkbaa.PDelta
open Go.RowKit Go.Proofs.YtlcodfjlbhjkbaaW.PrintWords Go.Proofs.YtlcodfjlbhjkbaaW.PrintLast Go.Proofs.YtlcodfjlbhjkbaaW.PrintMore
attribute [local go_sem] max2_int min2_int max_two min_two max_three min_three max_four min_four
attribute [local go_sem high] Go.Proofs.Ytlcodfjlbhjkbaa.Ord.leq_str Go.Proofs.Ytlcodfjlbhjkbaa.Ord.gtr_str Go.Proofs.Ytlcodfjlbhjkbaa.Ord.geq_str
end Go.Proofs.Ytlcodfjlbhjkbaa.PDelta
end
section
namespace Go.Proofs.Ytlcodfjlbhjkbaa.PDelta
open Go.RowKit Go.Proofs.YtlcodfjlbhjkbaaW.PrintWords Go.Proofs.YtlcodfjlbhjkbaaW.PrintLast Go.Proofs.YtlcodfjlbhjkbaaW.PrintMore
open Go.RowKit Go.Proofs.YtlcodfjlbhjkbaaW.PrintWords Go.Proofs.YtlcodfjlbhjkbaaW.PrintLast Go.Proofs.YtlcodfjlbhjkbaaW.PrintMore
end Go.Proofs.Ytlcodfjlbhjkbaa.PDelta
end
section
namespace Go.Proofs.Ytlcodfjlbhjkbaa.PDelta
open Go.RowKit Go.Proofs.YtlcodfjlbhjkbaaW.PrintWords Go.Proofs.YtlcodfjlbhjkbaaW.PrintLast Go.Proofs.YtlcodfjlbhjkbaaW.PrintMore
attribute [local go_sem] max2_int min2_int max_two min_two max_three min_three max_four min_four
attribute [local go_sem high] Go.Proofs.Ytlcodfjlbhjkbaa.Ord.leq_str Go.Proofs.Ytlcodfjlbhjkbaa.Ord.gtr_str Go.Proofs.Ytlcodfjlbhjkbaa.Ord.geq_str
noncomputable section
end
noncomputable section
end
end Go.Proofs.Ytlcodfjlbhjkbaa.PDelta
end
section
namespace Go.Proofs.Ytlcodfjlbhjkbaa.PDelta
open Go.RowKit Go.Proofs.YtlcodfjlbhjkbaaW.PrintWords Go.Proofs.YtlcodfjlbhjkbaaW.PrintLast Go.Proofs.YtlcodfjlbhjkbaaW.PrintMore
open Go.RowKit Go.Proofs.YtlcodfjlbhjkbaaW.PrintWords Go.Proofs.YtlcodfjlbhjkbaaW.PrintLast Go.Proofs.YtlcodfjlbhjkbaaW.PrintMore
open Go.RowKit Go.Proofs.YtlcodfjlbhjkbaaW.PrintWords Go.Proofs.YtlcodfjlbhjkbaaW.PrintLast Go.Proofs.YtlcodfjlbhjkbaaW.PrintMore
open Go.RowKit Go.Proofs.YtlcodfjlbhjkbaaW.PrintWords Go.Proofs.YtlcodfjlbhjkbaaW.PrintLast Go.Proofs.YtlcodfjlbhjkbaaW.PrintMore
open Go.RowKit Go.Proofs.YtlcodfjlbhjkbaaW.PrintWords Go.Proofs.YtlcodfjlbhjkbaaW.PrintLast Go.Proofs.YtlcodfjlbhjkbaaW.PrintMore
end Go.Proofs.Ytlcodfjlbhjkbaa.PDelta
end
section
namespace Go.Proofs.Ytlcodfjlbhjkbaa.PDelta
open Go.RowKit Go.Proofs.YtlcodfjlbhjkbaaW.PrintWords Go.Proofs.YtlcodfjlbhjkbaaW.PrintLast Go.Proofs.YtlcodfjlbhjkbaaW.PrintMore
theorem tidy_gen {A:Nat} (hA:A ≤ 1073741824):∀ (ss:List S95) (s:WD),WF A s → (∀ x ∈ ss,StepOK x ∧ SAt A x) → (wu s).length + (units ss).length ≤ 1073741824 →
 ∃ o,Ev (fun k=>tidyL k ss s) (o,0) ∧ FO A o ∧ E (units o) (wu s ++ units ss)
 | [],s,h,_,hl=>by
  obtain ⟨o,e,fo,eu⟩:=done_spec h hA (by simp [units_nil] at hl;omega)
  exact ⟨o,e,fo,by rw [eu,units_nil,List.append_nil];exact E.refl _⟩
 | x :: ss,s,h,hok,hl=>by
  have hok':∀ y ∈ ss,StepOK y ∧ SAt A y:=fun y hy=>hok y (List.mem_cons_of_mem _ hy)
  rw [units_cons,List.length_append] at hl
  obtain ⟨hx,hxa⟩:=hok x List.mem_cons_self
  have hul:=us_len hx
  have hsm:SSm x:=stepok_small (n:=1073741824) hx (Nat.le_trans hxa.1 hA) ⟨by omega,fun y hy=>Nat.le_trans (hxa.2 y hy) hA⟩ (Nat.le_refl _)
  obtain ⟨r0,hr0,hri⟩:=step_ev x hsm
  obtain rfl:=hri.2 hx
  have hE:∀ k,tidyE k x 0 = some 0:=fun k=>by unfold tidyE;rw [if_neg (by unfold tidyC;split <;> simp)]
  have e:∀ k,tidyL k (x :: ss) s = (delta_step.f k x.f0 x.f1 x.f2 x.f3).bind fun e0=>(tidyE k x e0).bind fun e=>if e ≠ 0 then some ([],e) else if x.f0 = 0 then (keepF k s x.f1 x.f2).bind (tidyL k ss) else if x.f0 = 1 then (elemsF k s x.f3).bind (tidyL k ss) else if wrap64 (s.cut + x.f1) > 2147483647 then some ([],3) else tidyL k ss ⟨s.out,s.add,wrap64 (s.cut + x.f1)⟩:=fun k=>rfl
  rcases hx with hk | hk | hk
  ·obtain ⟨s1,e1,w1,u1⟩:=keep_spec x.f1 x.f2 h hk.2.2.2.2 hxa.1 hA hk.2.1 (by rw [us_keep hk.1,List.length_replicate] at hl;omega)
   obtain ⟨o,e2,fo,eu⟩:=tidy_gen hA ss s1 w1 hok' (by rw [u1,List.length_append,List.length_replicate];rw [us_keep hk.1,List.length_replicate] at hl;omega)
   exact ⟨o,Ev.congr e (Ev.bind hr0 (Ev.congr (fun k=>by rw [hE,Option.bind_some,if_neg (by decide),if_pos hk.1]) (Ev.bind e1 e2))),fo,by rw [units_cons,us_keep hk.1,← List.append_assoc,← u1];exact eu⟩
  ·obtain ⟨s1,e1,w1,u1⟩:=elems_spec x.f3 h hk.2.2.2.2 hxa.2 hA (by rw [us_add hk.1,List.length_map] at hl;omega)
   have hwl:=u1.len
   rw [List.length_append,List.length_map] at hwl
   obtain ⟨o,e2,fo,eu⟩:=tidy_gen hA ss s1 w1 hok' (by rw [us_add hk.1,List.length_map] at hl;omega)
   exact ⟨o,Ev.congr e (Ev.bind hr0 (Ev.congr (fun k=>by rw [hE,Option.bind_some,if_neg (by decide),if_neg (by omega),if_pos hk.1]) (Ev.bind e1 e2))),fo,by rw [units_cons,us_add hk.1,← List.append_assoc];exact eu.trans (u1.app (E.refl _))⟩
  ·have hwl:=wu_len s
   have hsc:=h.cut
   have hxl:x.f1.toNat ≤ 1073741824:=by rw [us_cut hk.1,List.length_replicate] at hl;omega
   obtain ⟨w1,u1⟩:=cut_spec x.f1 h (by omega)
   obtain ⟨o,e2,fo,eu⟩:=tidy_gen hA ss ⟨s.out,s.add,s.cut + x.f1⟩ w1 hok' (by rw [u1,List.length_append,List.length_replicate];rw [us_cut hk.1,List.length_replicate] at hl;omega)
   have hb:s.cut + x.f1 ≤ 1073741824:=by rw [us_cut hk.1,List.length_replicate] at hl;omega
   exact ⟨o,Ev.congr e (Ev.bind hr0 (Ev.congr (fun k=>by rw [hE,Option.bind_some,if_neg (by decide),if_neg (by omega),if_neg (by omega),w64 (by omega) (by omega),if_neg (by omega)]) e2)),fo,by rw [units_cons,us_cut hk.1,← List.append_assoc,← u1];exact eu⟩
section
variable {kept lost:ByteArray} {f:List S26} {r:List S95 × Int}
end
section
variable {kept lost:ByteArray}
end
def FFine (f:List S26):Prop:=f.length ≤ 1048576 ∧ ∀ x ∈ f,Small x.f2 ∧ x.f2.length ≤ 1048576
theorem FFine.small {f:List S26} (h:FFine f):FSmall f:=⟨by have:=h.1;omega,fun x hx=>⟨(h.2 x hx).1,by have:=(h.2 x hx).2;omega⟩⟩
section
variable {f:List S26}
end
section
variable {α:Type} {d:Kd α} {e base n ca ba:Nat} {wr w1:World} {ok okp:Nat → Prop} {xs:List α} {v:Value}
theorem n_at1 (hsz:d.sz = 1) (h:d.N e wr base ok (.slice (some ⟨ba,0,none⟩) n ca) xs) (z:α) {i:Nat} (hi:i < n):(∃ u,wr.cell? ⟨ba,i,none⟩ = some u ∧ Kd.FK d wr (fun k=>ok k ∧ k ≠ ba) (xs.getD i z) [u]) ∧ wr.frozen? ⟨ba,i,none⟩ = false:=by
 obtain ⟨c,hcl,hF,hcc,hfr⟩:=Kd.N_elem h z (i:Int) (by omega) (by omega)
 rw [hsz] at hcl
 simp only [Int.toNat_natCast,hsz,Nat.mul_one] at hF hcc hfr
 match c,hcl with
 | [u],_=>exact ⟨⟨u,hcc 0 u rfl,hF⟩,hfr 0⟩
theorem n_put1 (hsz:d.sz = 1) (h:d.N e wr base ok (.slice (some ⟨ba,0,none⟩) n ca) xs) {i:Nat} (hi:i < n) {y:α} {u:Value} (hM:Kd.FK d wr okp y [u]) (hokp:∀ k,okp k → ok k ∧ k ≠ ba) :
 d.N e (wr.setCell ⟨ba,i,none⟩ u) base ok (.slice (some ⟨ba,0,none⟩) n ca) (xs.set i y) ∧ wr.grownBy (wr.setCell ⟨ba,i,none⟩ u) (some ba):=by
 cases xs with
 | nil=>have:=(Kd.N_reads' h).1;simp only [List.length_nil] at this;omega
 | cons x0 xs0 =>
 obtain ⟨c,hcl,hF,hcc,hfr⟩:=Kd.N_elem h x0 (i:Int) (by omega) (by omega)
 have hs:=Kd.N_seg h (i:Int) (by omega) (by omega) (c:=c) (seg:=[u]) (j:=0) (x':=y) (okp:=okp) hcl hcc (by rw [hsz];exact Nat.le_refl 1)
  (by rw [List.take_zero,List.nil_append,List.drop_eq_nil_of_le (by rw [hcl,hsz];exact Nat.le_refl 1),List.append_nil];exact hM) hokp
 simpa only [Int.toNat_natCast,hsz,Nat.mul_one,Nat.add_zero,World.setCells] using hs
theorem n_made_tight (h:d.N e w1 base (fun k=>k = n) v xs) (hat:∃ b,v.ownBlock = some b ∧ n ≤ b):d.N e w1 base (fun k=>some k = v.ownBlock) v xs:=by
 obtain ⟨b,hb,_⟩:=hat
 have:b = n:=h.1 b hb
 exact Kd.N_mono h (fun k hk=>by rw [hk,hb,this])
end
structure SdS (w:World) (g:Nat) (As:List (List S26)) (Cs:List Bool) (Ts:List (List S91)) (vA vB vC:Value) (wr:World):Prop where
 lg:w.heap.size < g
 res:wr.heap[w.heap.size]? = some (.cells #[.slice none 0 0,.slice none 0 0,.slice none 0 0] 159 (0,0))
 bk:wr.heap[g]? = some (.cells #[vA,vB,vC] 159 (0,0))
 rA:Kd.N (Kd.slice 26 k26) 22 wr w.heap.size (fun k=>((k ≠ g ∧ k ≠ w.heap.size) ∧ some k ≠ vB.ownBlock) ∧ some k ≠ vC.ownBlock) vA As
 rB:Kd.N Kd.bool 4 wr w.heap.size (fun k=>((k ≠ g ∧ k ≠ w.heap.size) ∧ some k ≠ vA.ownBlock) ∧ some k ≠ vC.ownBlock) vB Cs
 rC:Kd.N (Kd.slice 91 k91) 24 wr w.heap.size (fun k=>((k ≠ g ∧ k ≠ w.heap.size) ∧ some k ≠ vA.ownBlock) ∧ some k ≠ vB.ownBlock) vC Ts
 bel:Below w.heap.size w wr
section
variable {w wr w1:World} {g:Nat} {As As':List (List S26)} {Cs Cs':List Bool} {Ts Ts':List (List S91)} {vA vB vC:Value}
theorem SdS.below (h:SdS w g As Cs Ts vA vB vC wr) (hb:Below wr.heap.size wr w1):SdS w g As Cs Ts vA vB vC w1 :=
 ⟨h.lg,(hb.block _ (blk_lt h.res)).trans h.res,(hb.block _ (blk_lt h.bk)).trans h.bk,Kd.N_below h.rA hb,Kd.N_below h.rB hb,Kd.N_below h.rC hb,below_step h.bel hb⟩
theorem SdS.made (h:SdS w g As Cs Ts vA vB vC wr) (o:Obj):SdS w g As Cs Ts vA vB vC (wr.alloc o):=h.below (below_alloc (Below.refl _ _) o)
theorem SdS.appA (h:SdS w g As Cs Ts vA vB vC wr) (hN:Kd.N (Kd.slice 26 k26) 22 w1 w.heap.size (fun k=>((k ≠ g ∧ k ≠ w.heap.size) ∧ some k ≠ vB.ownBlock) ∧ some k ≠ vC.ownBlock) vA As') (hg:wr.grownBy w1 vA.ownBlock) (hb:Below w.heap.size w w1):SdS w g As' Cs Ts vA vB vC w1 :=
 ⟨h.lg,blk_grown h.res hg (Kd.N_ne h.rA h.res (by decide)),blk_grown h.bk hg (Kd.N_ne h.rA h.bk (by decide)),hN,Kd.N_grown h.rB hg (fun _ hk=>hk.1.2),Kd.N_grown h.rC hg (fun _ hk=>hk.1.2),hb⟩
theorem SdS.appB (h:SdS w g As Cs Ts vA vB vC wr) (hN:Kd.N Kd.bool 4 w1 w.heap.size (fun k=>((k ≠ g ∧ k ≠ w.heap.size) ∧ some k ≠ vA.ownBlock) ∧ some k ≠ vC.ownBlock) vB Cs') (hg:wr.grownBy w1 vB.ownBlock) (hb:Below w.heap.size w w1):SdS w g As Cs' Ts vA vB vC w1 :=
 ⟨h.lg,blk_grown h.res hg (Kd.N_ne h.rB h.res (by decide)),blk_grown h.bk hg (Kd.N_ne h.rB h.bk (by decide)),Kd.N_grown h.rA hg (fun _ hk=>hk.1.2),hN,Kd.N_grown h.rC hg (fun _ hk=>hk.2),hb⟩
theorem SdS.appC (h:SdS w g As Cs Ts vA vB vC wr) (hN:Kd.N (Kd.slice 91 k91) 24 w1 w.heap.size (fun k=>((k ≠ g ∧ k ≠ w.heap.size) ∧ some k ≠ vA.ownBlock) ∧ some k ≠ vB.ownBlock) vC Ts') (hg:wr.grownBy w1 vC.ownBlock) (hb:Below w.heap.size w w1):SdS w g As Cs Ts' vA vB vC w1 :=
 ⟨h.lg,blk_grown h.res hg (Kd.N_ne h.rC h.res (by decide)),blk_grown h.bk hg (Kd.N_ne h.rC h.bk (by decide)),Kd.N_grown h.rA hg (fun _ hk=>hk.2),Kd.N_grown h.rB hg (fun _ hk=>hk.2),hN,hb⟩
theorem SdS.last (h:SdS w g As Cs Ts vA vB vC wr):let W:=((wr.setCell ⟨w.heap.size,0,none⟩ vA).setCell ⟨w.heap.size,1,none⟩ vB).setCell ⟨w.heap.size,2,none⟩ vC
 W.heap[w.heap.size]? = some (.cells #[vA,vB,vC] 159 (0,0)) ∧ Kd.N (Kd.slice 26 k26) 22 W w.heap.size (fun _=>True) vA As ∧ Kd.N Kd.bool 4 W w.heap.size (fun _=>True) vB Cs ∧ Kd.N (Kd.slice 91 k91) 24 W w.heap.size (fun _=>True) vC Ts ∧ Below w.heap.size w W :=
 ⟨blk_put (blk_put (blk_put h.res 0 vA rfl) 1 vB rfl) 2 vC rfl,
  Kd.N_mono (Kd.N_far (Kd.N_far (Kd.N_far h.rA (fun _ hk=>hk.1.1.2) _) (fun _ hk=>hk.1.1.2) _) (fun _ hk=>hk.1.1.2) _) (fun _ _=>trivial),
  Kd.N_mono (Kd.N_far (Kd.N_far (Kd.N_far h.rB (fun _ hk=>hk.1.1.2) _) (fun _ hk=>hk.1.1.2) _) (fun _ hk=>hk.1.1.2) _) (fun _ _=>trivial),
  Kd.N_mono (Kd.N_far (Kd.N_far (Kd.N_far h.rC (fun _ hk=>hk.1.1.2) _) (fun _ hk=>hk.1.1.2) _) (fun _ hk=>hk.1.1.2) _) (fun _ _=>trivial),
  below_set (below_set (below_set h.bel (Nat.le_refl _)) (Nat.le_refl _)) (Nat.le_refl _)⟩
theorem SdS.old (h:SdS w g As Cs Ts vA vB vC wr):∀ k,k < w.heap.size → (((k ≠ g ∧ k ≠ w.heap.size) ∧ some k ≠ vA.ownBlock) ∧ some k ≠ vB.ownBlock) ∧ some k ≠ vC.ownBlock:=fun k hk=>by
 have:=h.lg
 exact ⟨⟨⟨⟨by omega,by omega⟩,fun e=>by have:=Kd.N_base h.rA k e.symm;omega⟩,fun e=>by have:=Kd.N_base h.rB k e.symm;omega⟩,fun e=>by have:=Kd.N_base h.rC k e.symm;omega⟩
theorem SdS.putA {ba n ca i:Nat} (h:SdS w g As Cs Ts (.slice (some ⟨ba,0,none⟩) n ca) vB vC wr) (hi:i < n) {y:List S26} {A:Option Addr} {m:Nat} (hF:Kd.F k26 wr (fun k=>k < w.heap.size) A y.length y) (hm:y.length ≤ m):SdS w g (As.set i y) Cs Ts (.slice (some ⟨ba,0,none⟩) n ca) vB vC (wr.setCell ⟨ba,i,none⟩ (.slice A y.length m)):=by
 have hb:w.heap.size ≤ ba:=Kd.N_base h.rA ba (by simp [Value.ownBlock])
 obtain ⟨h1,h2⟩:=n_put1 rfl h.rA hi (y:=y) (u:=.slice A y.length m) (okp:=fun k=>k < w.heap.size) (fk_slice hF hm) (fun k hk=>⟨⟨⟨(h.old k hk).1.1.1,(h.old k hk).1.2⟩,(h.old k hk).2⟩,by omega⟩)
 exact h.appA h1 (by rw [show (Value.slice (some ⟨ba,0,none⟩) n ca).ownBlock = some ba by simp [Value.ownBlock]];exact h2) (below_set h.bel hb)
theorem SdS.putB {ba n ca i:Nat} (h:SdS w g As Cs Ts vA (.slice (some ⟨ba,0,none⟩) n ca) vC wr) (hi:i < n) (y:Bool):SdS w g As (Cs.set i y) Ts vA (.slice (some ⟨ba,0,none⟩) n ca) vC (wr.setCell ⟨ba,i,none⟩ (.bool y)):=by
 have hb:w.heap.size ≤ ba:=Kd.N_base h.rB ba (by simp [Value.ownBlock])
 obtain ⟨h1,h2⟩:=n_put1 rfl h.rB hi (y:=y) (u:=.bool y) (okp:=fun _=>False) (fun _ _=>rfl) (fun k hk=>hk.elim)
 exact h.appB h1 (by rw [show (Value.slice (some ⟨ba,0,none⟩) n ca).ownBlock = some ba by simp [Value.ownBlock]];exact h2) (below_set h.bel hb)
theorem SdS.putC {ba n ca i:Nat} (h:SdS w g As Cs Ts vA vB (.slice (some ⟨ba,0,none⟩) n ca) wr) (hi:i < n) {y:List S91} {A:Option Addr} {m:Nat} (hF:Kd.F k91 wr (fun k=>k < w.heap.size) A y.length y) (hm:y.length ≤ m):SdS w g As Cs (Ts.set i y) vA vB (.slice (some ⟨ba,0,none⟩) n ca) (wr.setCell ⟨ba,i,none⟩ (.slice A y.length m)):=by
 have hb:w.heap.size ≤ ba:=Kd.N_base h.rC ba (by simp [Value.ownBlock])
 obtain ⟨h1,h2⟩:=n_put1 rfl h.rC hi (y:=y) (u:=.slice A y.length m) (okp:=fun k=>k < w.heap.size) (fk_slice hF hm) (fun k hk=>⟨⟨⟨(h.old k hk).1.1.1,(h.old k hk).1.1.2⟩,(h.old k hk).1.2⟩,by omega⟩)
 exact h.appC h1 (by rw [show (Value.slice (some ⟨ba,0,none⟩) n ca).ownBlock = some ba by simp [Value.ownBlock]];exact h2) (below_set h.bel hb)
theorem SdS.start {W W1:World} {xs0:Array Value} (h1s:Below w.heap.size w W1) (hlt:w.heap.size < W1.heap.size) (hlg:W1.heap.size ≤ g) (hr:W.heap[w.heap.size]? = some (.cells #[.slice none 0 0,.slice none 0 0,.slice none 0 0] 159 (0,0))) (hk:W.heap[g]? = some (.cells #[.slice none 0 0,.slice none 0 0,.slice none 0 0] 159 (0,0)))
 (hA:Kd.N (Kd.slice 26 k26) 22 W W1.heap.size (fun k=>some k = vA.ownBlock) vA As) (hB:Kd.N Kd.bool 4 W W1.heap.size (fun k=>some k = vB.ownBlock) vB Cs) (hC:Kd.N (Kd.slice 91 k91) 24 W W1.heap.size (fun k=>some k = vC.ownBlock) vC Ts) (hb:Below W1.heap.size W1 W) :
 SdS w g As Cs Ts vA vB vC (((W.setCell ⟨g,0,none⟩ vA).setCell ⟨g,1,none⟩ vB).setCell ⟨g,2,none⟩ vC):=by
 have hne:w.heap.size ≠ g:=by omega
 have ty:∀ {k:Nat} {a b:Array Value} {s t:Nat},W.heap[k]? = some (.cells a s (0,0)) → W.heap[k]? = some (.cells b t (0,0)) → s ≠ t → False:=fun p q r=>by
  rw [p] at q
  injection q with q
  injection q with _ q
  exact r q
 have tA:=fun k (hk:some k = vA.ownBlock)=>Kd.N_typed hA k hk.symm
 have tB:=fun k (hk:some k = vB.ownBlock)=>Kd.N_typed hB k hk.symm
 have tC:=fun k (hk:some k = vC.ownBlock)=>Kd.N_typed hC k hk.symm
 have nA:∀ k,some k = vA.ownBlock → k ≠ g ∧ k ≠ w.heap.size:=fun k e=>by
  obtain ⟨c,hc⟩:=tA k e
  exact ⟨fun q=>by subst q;exact ty hc hk (by decide),fun q=>by subst q;exact ty hc hr (by decide)⟩
 have nB:∀ k,some k = vB.ownBlock → k ≠ g ∧ k ≠ w.heap.size:=fun k e=>by
  obtain ⟨c,hc⟩:=tB k e
  exact ⟨fun q=>by subst q;exact ty hc hk (by decide),fun q=>by subst q;exact ty hc hr (by decide)⟩
 have nC:∀ k,some k = vC.ownBlock → k ≠ g ∧ k ≠ w.heap.size:=fun k e=>by
  obtain ⟨c,hc⟩:=tC k e
  exact ⟨fun q=>by subst q;exact ty hc hk (by decide),fun q=>by subst q;exact ty hc hr (by decide)⟩
 have AB:∀ k,some k = vA.ownBlock → some k ≠ vB.ownBlock:=fun k e f=>by obtain ⟨c,hc⟩:=tA k e;obtain ⟨c',hc'⟩:=tB k f;exact ty hc hc' (by decide)
 have AC:∀ k,some k = vA.ownBlock → some k ≠ vC.ownBlock:=fun k e f=>by obtain ⟨c,hc⟩:=tA k e;obtain ⟨c',hc'⟩:=tC k f;exact ty hc hc' (by decide)
 have BC:∀ k,some k = vB.ownBlock → some k ≠ vC.ownBlock:=fun k e f=>by obtain ⟨c,hc⟩:=tB k e;obtain ⟨c',hc'⟩:=tC k f;exact ty hc hc' (by decide)
 have hbw:Below w.heap.size w W:=h1s.trans (hb.mono (Nat.le_of_lt hlt))
 have hge:w.heap.size ≤ g:=by omega
 refine ⟨by omega,blk_far (blk_far (blk_far hr hne _) hne _) hne _,blk_put (blk_put (blk_put hk 0 vA rfl) 1 vB rfl) 2 vC rfl,?_,?_,?_,below_set (below_set (below_set hbw hge) hge) hge⟩
 ·exact Kd.N_lower (Kd.N_mono (Kd.N_far (Kd.N_far (Kd.N_far hA (fun k e=>(nA k e).1) _) (fun k e=>(nA k e).1) _) (fun k e=>(nA k e).1) _) (fun k e=>⟨⟨nA k e,AB k e⟩,AC k e⟩)) (Nat.le_of_lt hlt)
 ·exact Kd.N_lower (Kd.N_mono (Kd.N_far (Kd.N_far (Kd.N_far hB (fun k e=>(nB k e).1) _) (fun k e=>(nB k e).1) _) (fun k e=>(nB k e).1) _) (fun k e=>⟨⟨nB k e,fun f=>AB k f e⟩,BC k e⟩)) (Nat.le_of_lt hlt)
 ·exact Kd.N_lower (Kd.N_mono (Kd.N_far (Kd.N_far (Kd.N_far hC (fun k e=>(nC k e).1) _) (fun k e=>(nC k e).1) _) (fun k e=>(nC k e).1) _) (fun k e=>⟨⟨nC k e,fun f=>AC k f e⟩,fun f=>BC k f e⟩)) (Nat.le_of_lt hlt)
end
structure SdT (w:World) (g:Nat) (As:List (List S26)) (Cs:List Bool) (Ts:List (List S91)) (vA vB vC:Value) (gs:Nat) (x:S95) (A2:Option Addr) (c2:Nat) (A3:Option Addr) (c3:Nat) (wr:World):Prop where
 st:SdS w g As Cs Ts vA vB vC wr
 bx:wr.heap[gs]? = some (.cells #[.int .i64 x.f0,.int .i64 x.f1,.slice A2 x.f2.length c2,.slice A3 x.f3.length c3] 95 (0,0))
def fillS {α:Type} (l:List α) (i:Nat) (x:α):Nat → List α
 | 0=>l
 | n + 1=>(fillS l i x n).set (i + n) x
theorem fillS_len {α:Type} (l:List α) (i:Nat) (x:α):∀ n,(fillS l i x n).length = l.length
 | 0=>rfl
 | n + 1=>by rw [fillS,List.length_set,fillS_len l i x n]
def rdS (s:S95) (t:List (List S26) × List Bool × List (List S91)) (i:Nat):List (List S26) × List Bool × List (List S91) :=
 if s.f0 = 1 then (t.1.set i s.f3,t.2) else if s.f0 = 2 then (t.1,fillS t.2.1 i true s.f1.toNat,t.2.2) else (t.1,t.2.1,fillS t.2.2 i s.f2 s.f1.toNat)
def rdI (s:S95) (i:Nat):Nat:=if s.f0 = 1 then i else i + s.f1.toNat
def rdL:List S95 → List (List S26) × List Bool × List (List S91) → Nat → List (List S26) × List Bool × List (List S91)
 | [],t,_=>t
 | s :: d,t,i=>rdL d (rdS s t i) (rdI s i)
def sideOf (n:Nat) (d:List S95):List (List S26) × List Bool × List (List S91):=rdL d (List.replicate (n + 1) [],List.replicate n false,List.replicate n []) 0
def oldL:List S95 → Nat
 | []=>0
 | s :: d=>(if s.f0 = 1 then 0 else s.f1.toNat) + oldL d
theorem grown_below {w w1:World} (hg:w.grownBy w1 none):Below w.heap.size w w1:=(pw_below_grown (Below.refl _ _) none (Nat.le_refl _) hg (fun _ hk=>by cases hk))
theorem wr64 {x:Int} (h0:-9223372036854775808 ≤ x) (h1:x ≤ 9223372036854775807):wrap64 x = x:=by unfold wrap64;omega
theorem rd95_in {l:List S95} {i:Nat} (h:i < l.length):rd_T95 l (i:Int) ∈ l:=by
 have:=drop_T95 l i h
 exact List.mem_of_mem_drop (i:=i) (by rw [this];exact List.mem_cons_self)
structure RdB (n:Nat) (d:List S95) (t:List (List S26) × List Bool × List (List S91)) (i:Nat):Prop where
 a:t.1.length = n + 1
 c:t.2.1.length = n
 t:t.2.2.length = n
 le:i + oldL d ≤ n
theorem RdB.step {n:Nat} {s:S95} {d:List S95} {t:List (List S26) × List Bool × List (List S91)} {i:Nat} (h:RdB n (s :: d) t i):RdB n d (rdS s t i) (rdI s i):=by
 obtain ⟨h1,h2,h3,h4⟩:=h
 rw [oldL] at h4
 unfold rdS rdI
 by_cases c1:s.f0 = 1
 ·rw [if_pos c1] at h4;rw [if_pos c1,if_pos c1]
  exact ⟨by rw [List.length_set];exact h1,h2,h3,by omega⟩
 ·rw [if_neg c1] at h4;rw [if_neg c1,if_neg c1]
  by_cases c2:s.f0 = 2
  ·rw [if_pos c2];exact ⟨h1,by show (fillS _ _ _ _).length = n;rw [fillS_len];exact h2,h3,by omega⟩
  ·rw [if_neg c2];exact ⟨h1,h2,by show (fillS _ _ _ _).length = n;rw [fillS_len];exact h3,by omega⟩
section
variable {w wr w1:World} {g gs:Nat} {As:List (List S26)} {Cs:List Bool} {Ts:List (List S91)} {vA vB vC:Value} {x:S95} {A2 A3:Option Addr} {c2 c3:Nat}
theorem SdT.putB {ba n ca i:Nat} (h:SdT w g As Cs Ts vA (.slice (some ⟨ba,0,none⟩) n ca) vC gs x A2 c2 A3 c3 wr) (hi:i < n) (y:Bool):SdT w g As (Cs.set i y) Ts vA (.slice (some ⟨ba,0,none⟩) n ca) vC gs x A2 c2 A3 c3 (wr.setCell ⟨ba,i,none⟩ (.bool y)) :=
 ⟨h.st.putB hi y,blk_far h.bx (fun e=>Kd.N_ne h.st.rB h.bx (by decide) (by simpa [Value.ownBlock] using e)) _⟩
theorem SdT.putC {ba n ca i:Nat} (h:SdT w g As Cs Ts vA vB (.slice (some ⟨ba,0,none⟩) n ca) gs x A2 c2 A3 c3 wr) (hi:i < n) {y:List S91} {A:Option Addr} {m:Nat} (hF:Kd.F k91 wr (fun k=>k < w.heap.size) A y.length y) (hm:y.length ≤ m):SdT w g As Cs (Ts.set i y) vA vB (.slice (some ⟨ba,0,none⟩) n ca) gs x A2 c2 A3 c3 (wr.setCell ⟨ba,i,none⟩ (.slice A y.length m)) :=
 ⟨h.st.putC hi hF hm,blk_far h.bx (fun e=>Kd.N_ne h.st.rC h.bx (by decide) (by simpa [Value.ownBlock] using e)) _⟩
end
set_option maxRecDepth 100000 in
set_option maxHeartbeats 16000000 in
theorem read_calls (n:Nat) (A0:Option Addr) (c0:Nat) (l0:List (S95)) (w:World) (hr0:Kd.C k95 w A0 l0.length l0) (hc0:l0.length ≤ c0) (hll:l0.length ≤ 1073741824) (hn:n ≤ 1048576) (ho:oldL l0 ≤ n) (hp:∀ s ∈ l0,0 ≤ s.f1) :
 Calls Try.prog 94 #[.int .i64 (n:Int),.slice A0 l0.length c0] w fun e w'=>∃ (A1 A2 A3:Option Addr) (c1 c2 c3:Nat),e = .returned (.agg #[.slice A1 (sideOf n l0).1.length c1,.slice A2 (sideOf n l0).2.1.length c2,.slice A3 (sideOf n l0).2.2.length c3]) ∧
  (Kd.C (Kd.slice 26 k26) w' A1 (sideOf n l0).1.length (sideOf n l0).1 ∧ (sideOf n l0).1.length ≤ c1) ∧ (Kd.C Kd.bool w' A2 (sideOf n l0).2.1.length (sideOf n l0).2.1 ∧ (sideOf n l0).2.1.length ≤ c2) ∧ (Kd.C (Kd.slice 91 k91) w' A3 (sideOf n l0).2.2.length (sideOf n l0).2.2 ∧ (sideOf n l0).2.2.length ≤ c3) ∧ Below w.heap.size w w':=by
 have hu95:=Try.underlying95
 have hu159:=Try.underlying159
 have HR0:=Aside0.mk hr0
 have HC0:=Aside0.mk hc0
 have HLEN:=Aside0.mk hll
 have HN:=Aside0.mk hn
 have HP:=Aside0.mk hp
 have HRB:Aside0 (RdB n (l0.drop 0) (List.replicate (n + 1) [],List.replicate n false,List.replicate n []) 0):=⟨⟨by simp,by simp,by simp,by simpa using ho⟩⟩
 have HWK:=Aside0.mk (show wrap64 ((n:Int) + 1) = ((n + 1:Nat):Int) by unfold wrap64;omega)
 have HW0:Aside0 (w = w):=⟨rfl⟩
 clear hr0 hc0 hll hn ho hp
 go_enter Try.func94,Try.ntmps94
 go_upto_region 1 with (fail)
 obtain ⟨w1,hw1⟩:∃ W,W = w.alloc (Obj.cells #[.slice none 0 0,.slice none 0 0,.slice none 0 0] 159):=⟨_,rfl⟩
 have HRES:Aside0 (w1.heap[w.heap.size]? = some (.cells #[.slice none 0 0,.slice none 0 0,.slice none 0 0] 159 (0,0))):=⟨by rw [hw1];exact blk_new w _⟩
 have HLT:Aside0 (w.heap.size < w1.heap.size):=⟨by rw [hw1,World.size_alloc];omega⟩
 have HB0:Aside0 (Below w.heap.size w w1):=⟨by rw [hw1];exact below_alloc (Below.refl _ _) _⟩
 rw [← hw1]
 clear hw1 HW0
 have HB1:=Aside0.mk (below_drew1 (Below.refl w1.heap.size w1))
 have hwk:=HWK.out
 refine start_ (n:=10) (S:=fun w'=>True) (ds:=[9]) #[false,false,false,false,false,false,false,false,false,false] (by kernel_rfl) rfl rfl trivial (fun hHeld=>?_)
 refine pure_ (i:=0) (N:=some 11) (v:=?_) (a':=?_) (bm 1 10) rfl rfl (by kernel_rfl) (fun _ _ _ h=>h) (Or.inl ⟨by rfl,?_⟩) ?_ ?_
 rotate_left
 ·intro w'
  go_simp
  with_reducible rfl
 rotate_left
 ·simp only [Act.put,sA,sB,sC,i64_w,i32_w]
  rfl
 refine pure_ (i:=1) (N:=some 12) (v:=?_) (a':=?_) (bm 3 10) rfl rfl (by kernel_rfl) (fun _ _ _ h=>h) (Or.inl ⟨by rfl,?_⟩) ?_ ?_
 rotate_left
 ·intro w'
  go_simp
  with_reducible rfl
 rotate_left
 ·simp only [Act.put,sA,sB,sC,i64_w,i32_w]
  rfl
 refine pure_ (i:=3) (N:=some 14) (v:=?_) (a':=?_) (bm 11 10) rfl rfl (by kernel_rfl) (fun _ _ _ h=>h) (Or.inl ⟨by rfl,?_⟩) ?_ ?_
 rotate_left
 ·intro w'
  go_simp
  with_reducible rfl
 rotate_left
 ·simp only [Act.put,sA,sB,sC,i64_w,i32_w]
  rfl
 refine pure_ (i:=5) (N:=some 16) (v:=?_) (a':=?_) (bm 43 10) rfl rfl (by kernel_rfl) (fun _ _ _ h=>h) (Or.inl ⟨by rfl,?_⟩) ?_ ?_
 rotate_left
 ·intro w'
  go_simp
  with_reducible rfl
 rotate_left
 ·simp only [Act.put,sA,sB,sC,i64_w,i32_w]
  rfl
 refine join_ (σ:=Value × Value × Value × Nat) 1 (bm 511 10) (fun s_=>[(13,s_.1),(15,s_.2.1),(17,s_.2.2.1),(5,(.pointer (some ⟨s_.2.2.2,0,none⟩))),(18,.agg #[s_.1,s_.2.1,s_.2.2.1])]) (fun s_ w'=>((Kd.N (Kd.slice 26 k26) 22 w' w1.heap.size (fun k=>some k = s_.1.ownBlock) s_.1 (List.replicate (n + 1) [])) ∧ (Kd.N Kd.bool 4 w' w1.heap.size (fun k=>some k = s_.2.1.ownBlock) s_.2.1 (List.replicate n false)) ∧ (Kd.N (Kd.slice 91 k91) 24 w' w1.heap.size (fun k=>some k = s_.2.2.1.ownBlock) s_.2.2.1 (List.replicate n [])) ∧ (w1.heap.size ≤ s_.2.2.2 ∧ w'.heap[s_.2.2.2]? = some (.cells #[.slice none 0 0,.slice none 0 0,.slice none 0 0] 159 (0,0)))) ∧ Below w1.heap.size w1 w') ?_ ?_
 rotate_left
 ·intro hJ2_4_6_8
  refine join_ (σ:=Value × Value × Value) 2 (bm 255 10) (fun s_=>[(13,s_.1),(15,s_.2.1),(17,s_.2.2),(18,.agg #[s_.1,s_.2.1,s_.2.2])]) (fun s_ w'=>((Kd.N (Kd.slice 26 k26) 22 w' w1.heap.size (fun k=>some k = s_.1.ownBlock) s_.1 (List.replicate (n + 1) [])) ∧ (Kd.N Kd.bool 4 w' w1.heap.size (fun k=>some k = s_.2.1.ownBlock) s_.2.1 (List.replicate n false)) ∧ (Kd.N (Kd.slice 91 k91) 24 w' w1.heap.size (fun k=>some k = s_.2.2.ownBlock) s_.2.2 (List.replicate n []))) ∧ Below w1.heap.size w1 w') ?_ ?_
  rotate_left
  ·intro hJ2_4_6
   refine join_ (σ:=Value × Value × Nat) 3 (bm 319 10) (fun s_=>[(13,s_.1),(15,s_.2.1),(5,(.pointer (some ⟨s_.2.2,0,none⟩)))]) (fun s_ w'=>((Kd.N (Kd.slice 26 k26) 22 w' w1.heap.size (fun k=>some k = s_.1.ownBlock) s_.1 (List.replicate (n + 1) [])) ∧ (Kd.N Kd.bool 4 w' w1.heap.size (fun k=>some k = s_.2.1.ownBlock) s_.2.1 (List.replicate n false)) ∧ (w1.heap.size ≤ s_.2.2 ∧ w'.heap[s_.2.2]? = some (.cells #[.slice none 0 0,.slice none 0 0,.slice none 0 0] 159 (0,0)))) ∧ Below w1.heap.size w1 w') ?_ ?_
   rotate_left
   ·intro hJ2_4_8
    refine join_ (σ:=Value × Value × Nat) 3 (bm 367 10) (fun s_=>[(13,s_.1),(17,s_.2.1),(5,(.pointer (some ⟨s_.2.2,0,none⟩)))]) (fun s_ w'=>((Kd.N (Kd.slice 26 k26) 22 w' w1.heap.size (fun k=>some k = s_.1.ownBlock) s_.1 (List.replicate (n + 1) [])) ∧ (Kd.N (Kd.slice 91 k91) 24 w' w1.heap.size (fun k=>some k = s_.2.1.ownBlock) s_.2.1 (List.replicate n [])) ∧ (w1.heap.size ≤ s_.2.2 ∧ w'.heap[s_.2.2]? = some (.cells #[.slice none 0 0,.slice none 0 0,.slice none 0 0] 159 (0,0)))) ∧ Below w1.heap.size w1 w') ?_ ?_
    rotate_left
    ·intro hJ2_6_8
     refine join_ (σ:=Value × Value × Nat) 3 (bm 379 10) (fun s_=>[(15,s_.1),(17,s_.2.1),(5,(.pointer (some ⟨s_.2.2,0,none⟩)))]) (fun s_ w'=>((Kd.N Kd.bool 4 w' w1.heap.size (fun k=>some k = s_.1.ownBlock) s_.1 (List.replicate n false)) ∧ (Kd.N (Kd.slice 91 k91) 24 w' w1.heap.size (fun k=>some k = s_.2.1.ownBlock) s_.2.1 (List.replicate n [])) ∧ (w1.heap.size ≤ s_.2.2 ∧ w'.heap[s_.2.2]? = some (.cells #[.slice none 0 0,.slice none 0 0,.slice none 0 0] 159 (0,0)))) ∧ Below w1.heap.size w1 w') ?_ ?_
     rotate_left
     ·intro hJ4_6_8
      refine join_ (σ:=Value × Value) 4 (bm 63 10) (fun s_=>[(13,s_.1),(15,s_.2)]) (fun s_ w'=>((Kd.N (Kd.slice 26 k26) 22 w' w1.heap.size (fun k=>some k = s_.1.ownBlock) s_.1 (List.replicate (n + 1) [])) ∧ (Kd.N Kd.bool 4 w' w1.heap.size (fun k=>some k = s_.2.ownBlock) s_.2 (List.replicate n false))) ∧ Below w1.heap.size w1 w') ?_ ?_
      rotate_left
      ·intro hJ2_4
       refine join_ (σ:=Value × Value) 4 (bm 111 10) (fun s_=>[(13,s_.1),(17,s_.2)]) (fun s_ w'=>((Kd.N (Kd.slice 26 k26) 22 w' w1.heap.size (fun k=>some k = s_.1.ownBlock) s_.1 (List.replicate (n + 1) [])) ∧ (Kd.N (Kd.slice 91 k91) 24 w' w1.heap.size (fun k=>some k = s_.2.ownBlock) s_.2 (List.replicate n []))) ∧ Below w1.heap.size w1 w') ?_ ?_
       rotate_left
       ·intro hJ2_6
        refine join_ (σ:=Value × Nat) 4 (bm 303 10) (fun s_=>[(13,s_.1),(5,(.pointer (some ⟨s_.2,0,none⟩)))]) (fun s_ w'=>((Kd.N (Kd.slice 26 k26) 22 w' w1.heap.size (fun k=>some k = s_.1.ownBlock) s_.1 (List.replicate (n + 1) [])) ∧ (w1.heap.size ≤ s_.2 ∧ w'.heap[s_.2]? = some (.cells #[.slice none 0 0,.slice none 0 0,.slice none 0 0] 159 (0,0)))) ∧ Below w1.heap.size w1 w') ?_ ?_
        rotate_left
        ·intro hJ2_8
         refine join_ (σ:=Value × Value) 4 (bm 123 10) (fun s_=>[(15,s_.1),(17,s_.2)]) (fun s_ w'=>((Kd.N Kd.bool 4 w' w1.heap.size (fun k=>some k = s_.1.ownBlock) s_.1 (List.replicate n false)) ∧ (Kd.N (Kd.slice 91 k91) 24 w' w1.heap.size (fun k=>some k = s_.2.ownBlock) s_.2 (List.replicate n []))) ∧ Below w1.heap.size w1 w') ?_ ?_
         rotate_left
         ·intro hJ4_6
          refine join_ (σ:=Value × Nat) 4 (bm 315 10) (fun s_=>[(15,s_.1),(5,(.pointer (some ⟨s_.2,0,none⟩)))]) (fun s_ w'=>((Kd.N Kd.bool 4 w' w1.heap.size (fun k=>some k = s_.1.ownBlock) s_.1 (List.replicate n false)) ∧ (w1.heap.size ≤ s_.2 ∧ w'.heap[s_.2]? = some (.cells #[.slice none 0 0,.slice none 0 0,.slice none 0 0] 159 (0,0)))) ∧ Below w1.heap.size w1 w') ?_ ?_
          rotate_left
          ·intro hJ4_8
           refine join_ (σ:=Value × Nat) 4 (bm 363 10) (fun s_=>[(17,s_.1),(5,(.pointer (some ⟨s_.2,0,none⟩)))]) (fun s_ w'=>((Kd.N (Kd.slice 91 k91) 24 w' w1.heap.size (fun k=>some k = s_.1.ownBlock) s_.1 (List.replicate n [])) ∧ (w1.heap.size ≤ s_.2 ∧ w'.heap[s_.2]? = some (.cells #[.slice none 0 0,.slice none 0 0,.slice none 0 0] 159 (0,0)))) ∧ Below w1.heap.size w1 w') ?_ ?_
           rotate_left
           ·intro hJ6_8
            refine join_ (σ:=Value) 5 (bm 47 10) (fun s_=>[(13,s_)]) (fun s_ w'=>((Kd.N (Kd.slice 26 k26) 22 w' w1.heap.size (fun k=>some k = s_.ownBlock) s_ (List.replicate (n + 1) []))) ∧ Below w1.heap.size w1 w') ?_ ?_
            rotate_left
            ·intro hJ2
             refine join_ (σ:=Value) 5 (bm 59 10) (fun s_=>[(15,s_)]) (fun s_ w'=>((Kd.N Kd.bool 4 w' w1.heap.size (fun k=>some k = s_.ownBlock) s_ (List.replicate n false))) ∧ Below w1.heap.size w1 w') ?_ ?_
             rotate_left
             ·intro hJ4
              refine join_ (σ:=Value) 5 (bm 107 10) (fun s_=>[(17,s_)]) (fun s_ w'=>((Kd.N (Kd.slice 91 k91) 24 w' w1.heap.size (fun k=>some k = s_.ownBlock) s_ (List.replicate n []))) ∧ Below w1.heap.size w1 w') ?_ ?_
              rotate_left
              ·intro hJ6
               refine join_ (σ:=Nat) 5 (bm 299 10) (fun s_=>[(5,(.pointer (some ⟨s_,0,none⟩)))]) (fun s_ w'=>((w1.heap.size ≤ s_ ∧ w'.heap[s_]? = some (.cells #[.slice none 0 0,.slice none 0 0,.slice none 0 0] 159 (0,0)))) ∧ Below w1.heap.size w1 w') ?_ ?_
               rotate_left
               ·intro hJ8
                refine four_ (i:=2) (j:=4) (k:=6) (m:=8) (Ni:=some 13) (Nj:=some 15) (Nk:=some 17) (Nm:=some 5) (bm 47 10) (bm 59 10) (bm 107 10) (bm 299 10) rfl rfl rfl rfl rfl rfl rfl rfl (by kernel_rfl) (by decide) (by decide) (by decide) (by decide) (fun K hK=>?_) (fun K hK=>?_) (fun K hK=>?_) (fun K hK=>?_)
                ·skip
                 refine Kd.N_make_step (Kd.slice 26 k26) (w0:=w1) w1.heap.size 22 (by rfl) (N':=13) rfl 100 (.tmp 12) (.tmp 12) rfl ((n + 1:Nat):Int) (by (simp [Act.eval,HWK.out];done)) (by (simp [Act.eval,HWK.out];done)) Try.underlying100 (.slice none 0 0) 24 info22 rfl (by decide) (by decide) [] (ok:=fun k=>k = _) (okp:=fun _=>False) (fk_slice (Kd.F_nil _ _ _) (Nat.le_refl 0)) (fun _ hk=>hk.elim) rfl (by omega) (by have:=HN.out;omega) HB1.out HB1.out.size ?_
                 intro v13_ w_ hN hB hg hat
                 simp only [Int.toNat_natCast] at hN
                 have HNW:=Aside0.mk (n_made_tight hN hat)
                 have HB1:=Aside0.mk hB
                 have H2:=HNW
                 clear hN hB hg hat
                 refine hK.out _ _ trivial (fun hHeld=>?_)
                 clear hK K
                 refine norm_ (a':=?_) ?_ ?_
                 rotate_left
                 ·show Act.put _ (some 13) _ = _
                  simp only [Act.put,sA,sB,sC,i64_w,i32_w]
                  rfl
                 exact norm_ (by (simp only [putAll,Act.put,sA,sB,sC];done)) (hJ2 v13_ _ ⟨H2.out,HB1.out⟩)
                ·skip
                 refine Kd.N_make_step Kd.bool (w0:=w1) w1.heap.size 4 (by rfl) (N':=15) rfl 54 (.tmp 14) (.tmp 14) rfl (n:Int) (by rfl) (by rfl) Try.underlying54 (.bool false) 1 info4 rfl (by decide) (by decide) false (ok:=fun k=>k = _) (okp:=fun _=>False) (fun _ _=>rfl) (fun _ hk=>hk.elim) rfl (by omega) (by have:=HN.out;omega) HB1.out HB1.out.size ?_
                 intro v15_ w_ hN hB hg hat
                 simp only [Int.toNat_natCast] at hN
                 have HNW:=Aside0.mk (n_made_tight hN hat)
                 have HB1:=Aside0.mk hB
                 have H4:=HNW
                 clear hN hB hg hat
                 refine hK.out _ _ trivial (fun hHeld=>?_)
                 clear hK K
                 refine norm_ (a':=?_) ?_ ?_
                 rotate_left
                 ·show Act.put _ (some 15) _ = _
                  simp only [Act.put,sA,sB,sC,i64_w,i32_w]
                  rfl
                 exact norm_ (by (simp only [putAll,Act.put,sA,sB,sC];done)) (hJ4 v15_ _ ⟨H4.out,HB1.out⟩)
                ·skip
                 refine Kd.N_make_step (Kd.slice 91 k91) (w0:=w1) w1.heap.size 24 (by rfl) (N':=17) rfl 101 (.tmp 16) (.tmp 16) rfl (n:Int) (by rfl) (by rfl) Try.underlying101 (.slice none 0 0) 24 info24 rfl (by decide) (by decide) [] (ok:=fun k=>k = _) (okp:=fun _=>False) (fk_slice (Kd.F_nil _ _ _) (Nat.le_refl 0)) (fun _ hk=>hk.elim) rfl (by omega) (by have:=HN.out;omega) HB1.out HB1.out.size ?_
                 intro v17_ w_ hN hB hg hat
                 simp only [Int.toNat_natCast] at hN
                 have HNW:=Aside0.mk (n_made_tight hN hat)
                 have HB1:=Aside0.mk hB
                 have H6:=HNW
                 clear hN hB hg hat
                 refine hK.out _ _ trivial (fun hHeld=>?_)
                 clear hK K
                 refine norm_ (a':=?_) ?_ ?_
                 rotate_left
                 ·show Act.put _ (some 17) _ = _
                  simp only [Act.put,sA,sB,sC,i64_w,i32_w]
                  rfl
                 exact norm_ (by (simp only [putAll,Act.put,sA,sB,sC];done)) (hJ6 v17_ _ ⟨H6.out,HB1.out⟩)
                ·skip
                 refine box_step ?hg (N:=5) ?hd (cs:=#[.slice none 0 0,.slice none 0 0,.slice none 0 0]) (t:=159) ?hr ?_;(case hd=>rfl);(case hg=>rfl);(case hr=>(go_simp;done))
                 intro g5_ hg_ w_ hbox hb_
                 have H8N:Aside0 (w1.heap.size ≤ g5_ ∧ w_.heap[g5_]? = some (.cells #[.slice none 0 0,.slice none 0 0,.slice none 0 0] 159 (0,0))):=⟨by rw [hg_];exact HB1.out.size,hbox⟩
                 have HB1:=Aside0.mk (below_step HB1.out hb_)
                 have H8:=H8N
                 clear hb_ hbox hg_
                 refine hK.out _ _ trivial (fun hHeld=>?_)
                 clear hK K
                 refine norm_ (a':=?_) ?_ ?_
                 rotate_left
                 ·show Act.put _ (some 5) _ = _
                  simp only [Act.put,sA,sB,sC,i64_w,i32_w]
                  rfl
                 exact norm_ (by (simp only [putAll,Act.put,sA,sB,sC];done)) (hJ8 g5_ _ ⟨H8.out,HB1.out⟩)
               ·skip
                rintro g5_ w8_ ⟨h8_,hb_⟩
                have H8:Aside0 (w1.heap.size ≤ g5_ ∧ w8_.heap[g5_]? = some (.cells #[.slice none 0 0,.slice none 0 0,.slice none 0 0] 159 (0,0))):=⟨h8_⟩
                have HB1:Aside0 (Below w1.heap.size w1 w8_):=⟨hb_⟩
                clear hb_ h8_
                have hHeld:True:=trivial
                refine norm_ (a':=?_) ?_ ?_
                rotate_left
                ·simp only [putAll,Act.put,sA,sB,sC]
                 rfl
                refine three_ (i:=2) (j:=4) (k:=6) (Ni:=some 13) (Nj:=some 15) (Nk:=some 17) (bm 303 10) (bm 315 10) (bm 363 10) rfl rfl rfl rfl rfl rfl (by kernel_rfl) (by decide) (by decide) (by decide) (fun K hK=>?_) (fun K hK=>?_) (fun K hK=>?_)
                ·skip
                 refine Kd.N_make_step (Kd.slice 26 k26) (w0:=w1) w1.heap.size 22 (by rfl) (N':=13) rfl 100 (.tmp 12) (.tmp 12) rfl ((n + 1:Nat):Int) (by (simp [Act.eval,HWK.out];done)) (by (simp [Act.eval,HWK.out];done)) Try.underlying100 (.slice none 0 0) 24 info22 rfl (by decide) (by decide) [] (ok:=fun k=>k = _) (okp:=fun _=>False) (fk_slice (Kd.F_nil _ _ _) (Nat.le_refl 0)) (fun _ hk=>hk.elim) rfl (by omega) (by have:=HN.out;omega) HB1.out HB1.out.size ?_
                 intro v13_ w_ hN hB hg hat
                 simp only [Int.toNat_natCast] at hN
                 have HNW:=Aside0.mk (n_made_tight hN hat)
                 have H8:=Aside0.mk (And.intro H8.out.1 (((grown_below hg).block _ (blk_lt H8.out.2)).trans H8.out.2))
                 have HB1:=Aside0.mk hB
                 have H2:=HNW
                 clear hN hB hg hat
                 refine hK.out _ _ trivial (fun hHeld=>?_)
                 clear hK K
                 refine norm_ (a':=?_) ?_ ?_
                 rotate_left
                 ·show Act.put _ (some 13) _ = _
                  simp only [Act.put,sA,sB,sC,i64_w,i32_w]
                  rfl
                 exact norm_ (by (simp only [putAll,Act.put,sA,sB,sC];done)) (hJ2_8 (v13_,g5_) _ ⟨⟨H2.out,H8.out⟩,HB1.out⟩)
                ·skip
                 refine Kd.N_make_step Kd.bool (w0:=w1) w1.heap.size 4 (by rfl) (N':=15) rfl 54 (.tmp 14) (.tmp 14) rfl (n:Int) (by rfl) (by rfl) Try.underlying54 (.bool false) 1 info4 rfl (by decide) (by decide) false (ok:=fun k=>k = _) (okp:=fun _=>False) (fun _ _=>rfl) (fun _ hk=>hk.elim) rfl (by omega) (by have:=HN.out;omega) HB1.out HB1.out.size ?_
                 intro v15_ w_ hN hB hg hat
                 simp only [Int.toNat_natCast] at hN
                 have HNW:=Aside0.mk (n_made_tight hN hat)
                 have H8:=Aside0.mk (And.intro H8.out.1 (((grown_below hg).block _ (blk_lt H8.out.2)).trans H8.out.2))
                 have HB1:=Aside0.mk hB
                 have H4:=HNW
                 clear hN hB hg hat
                 refine hK.out _ _ trivial (fun hHeld=>?_)
                 clear hK K
                 refine norm_ (a':=?_) ?_ ?_
                 rotate_left
                 ·show Act.put _ (some 15) _ = _
                  simp only [Act.put,sA,sB,sC,i64_w,i32_w]
                  rfl
                 exact norm_ (by (simp only [putAll,Act.put,sA,sB,sC];done)) (hJ4_8 (v15_,g5_) _ ⟨⟨H4.out,H8.out⟩,HB1.out⟩)
                ·skip
                 refine Kd.N_make_step (Kd.slice 91 k91) (w0:=w1) w1.heap.size 24 (by rfl) (N':=17) rfl 101 (.tmp 16) (.tmp 16) rfl (n:Int) (by rfl) (by rfl) Try.underlying101 (.slice none 0 0) 24 info24 rfl (by decide) (by decide) [] (ok:=fun k=>k = _) (okp:=fun _=>False) (fk_slice (Kd.F_nil _ _ _) (Nat.le_refl 0)) (fun _ hk=>hk.elim) rfl (by omega) (by have:=HN.out;omega) HB1.out HB1.out.size ?_
                 intro v17_ w_ hN hB hg hat
                 simp only [Int.toNat_natCast] at hN
                 have HNW:=Aside0.mk (n_made_tight hN hat)
                 have H8:=Aside0.mk (And.intro H8.out.1 (((grown_below hg).block _ (blk_lt H8.out.2)).trans H8.out.2))
                 have HB1:=Aside0.mk hB
                 have H6:=HNW
                 clear hN hB hg hat
                 refine hK.out _ _ trivial (fun hHeld=>?_)
                 clear hK K
                 refine norm_ (a':=?_) ?_ ?_
                 rotate_left
                 ·show Act.put _ (some 17) _ = _
                  simp only [Act.put,sA,sB,sC,i64_w,i32_w]
                  rfl
                 exact norm_ (by (simp only [putAll,Act.put,sA,sB,sC];done)) (hJ6_8 (v17_,g5_) _ ⟨⟨H6.out,H8.out⟩,HB1.out⟩)
              ·skip
               rintro v17_ w6_ ⟨h6_,hb_⟩
               have H6:Aside0 (Kd.N (Kd.slice 91 k91) 24 w6_ w1.heap.size (fun k=>some k = v17_.ownBlock) v17_ (List.replicate n [])):=⟨h6_⟩
               have HB1:Aside0 (Below w1.heap.size w1 w6_):=⟨hb_⟩
               clear hb_ h6_
               have hHeld:True:=trivial
               refine norm_ (a':=?_) ?_ ?_
               rotate_left
               ·simp only [putAll,Act.put,sA,sB,sC]
                rfl
               refine three_ (i:=2) (j:=4) (k:=8) (Ni:=some 13) (Nj:=some 15) (Nk:=some 5) (bm 111 10) (bm 123 10) (bm 363 10) rfl rfl rfl rfl rfl rfl (by kernel_rfl) (by decide) (by decide) (by decide) (fun K hK=>?_) (fun K hK=>?_) (fun K hK=>?_)
               ·skip
                refine Kd.N_make_step (Kd.slice 26 k26) (w0:=w1) w1.heap.size 22 (by rfl) (N':=13) rfl 100 (.tmp 12) (.tmp 12) rfl ((n + 1:Nat):Int) (by (simp [Act.eval,HWK.out];done)) (by (simp [Act.eval,HWK.out];done)) Try.underlying100 (.slice none 0 0) 24 info22 rfl (by decide) (by decide) [] (ok:=fun k=>k = _) (okp:=fun _=>False) (fk_slice (Kd.F_nil _ _ _) (Nat.le_refl 0)) (fun _ hk=>hk.elim) rfl (by omega) (by have:=HN.out;omega) HB1.out HB1.out.size ?_
                intro v13_ w_ hN hB hg hat
                simp only [Int.toNat_natCast] at hN
                have HNW:=Aside0.mk (n_made_tight hN hat)
                have H6:=Aside0.mk (Kd.N_below H6.out (grown_below hg))
                have HB1:=Aside0.mk hB
                have H2:=HNW
                clear hN hB hg hat
                refine hK.out _ _ trivial (fun hHeld=>?_)
                clear hK K
                refine norm_ (a':=?_) ?_ ?_
                rotate_left
                ·show Act.put _ (some 13) _ = _
                 simp only [Act.put,sA,sB,sC,i64_w,i32_w]
                 rfl
                exact norm_ (by (simp only [putAll,Act.put,sA,sB,sC];done)) (hJ2_6 (v13_,v17_) _ ⟨⟨H2.out,H6.out⟩,HB1.out⟩)
               ·skip
                refine Kd.N_make_step Kd.bool (w0:=w1) w1.heap.size 4 (by rfl) (N':=15) rfl 54 (.tmp 14) (.tmp 14) rfl (n:Int) (by rfl) (by rfl) Try.underlying54 (.bool false) 1 info4 rfl (by decide) (by decide) false (ok:=fun k=>k = _) (okp:=fun _=>False) (fun _ _=>rfl) (fun _ hk=>hk.elim) rfl (by omega) (by have:=HN.out;omega) HB1.out HB1.out.size ?_
                intro v15_ w_ hN hB hg hat
                simp only [Int.toNat_natCast] at hN
                have HNW:=Aside0.mk (n_made_tight hN hat)
                have H6:=Aside0.mk (Kd.N_below H6.out (grown_below hg))
                have HB1:=Aside0.mk hB
                have H4:=HNW
                clear hN hB hg hat
                refine hK.out _ _ trivial (fun hHeld=>?_)
                clear hK K
                refine norm_ (a':=?_) ?_ ?_
                rotate_left
                ·show Act.put _ (some 15) _ = _
                 simp only [Act.put,sA,sB,sC,i64_w,i32_w]
                 rfl
                exact norm_ (by (simp only [putAll,Act.put,sA,sB,sC];done)) (hJ4_6 (v15_,v17_) _ ⟨⟨H4.out,H6.out⟩,HB1.out⟩)
               ·skip
                refine box_step ?hg (N:=5) ?hd (cs:=#[.slice none 0 0,.slice none 0 0,.slice none 0 0]) (t:=159) ?hr ?_;(case hd=>rfl);(case hg=>rfl);(case hr=>(go_simp;done))
                intro g5_ hg_ w_ hbox hb_
                have H8N:Aside0 (w1.heap.size ≤ g5_ ∧ w_.heap[g5_]? = some (.cells #[.slice none 0 0,.slice none 0 0,.slice none 0 0] 159 (0,0))):=⟨by rw [hg_];exact HB1.out.size,hbox⟩
                have H6:=Aside0.mk (Kd.N_below H6.out hb_)
                have HB1:=Aside0.mk (below_step HB1.out hb_)
                have H8:=H8N
                clear hb_ hbox hg_
                refine hK.out _ _ trivial (fun hHeld=>?_)
                clear hK K
                refine norm_ (a':=?_) ?_ ?_
                rotate_left
                ·show Act.put _ (some 5) _ = _
                 simp only [Act.put,sA,sB,sC,i64_w,i32_w]
                 rfl
                exact norm_ (by (simp only [putAll,Act.put,sA,sB,sC];done)) (hJ6_8 (v17_,g5_) _ ⟨⟨H6.out,H8.out⟩,HB1.out⟩)
             ·skip
              rintro v15_ w4_ ⟨h4_,hb_⟩
              have H4:Aside0 (Kd.N Kd.bool 4 w4_ w1.heap.size (fun k=>some k = v15_.ownBlock) v15_ (List.replicate n false)):=⟨h4_⟩
              have HB1:Aside0 (Below w1.heap.size w1 w4_):=⟨hb_⟩
              clear hb_ h4_
              have hHeld:True:=trivial
              refine norm_ (a':=?_) ?_ ?_
              rotate_left
              ·simp only [putAll,Act.put,sA,sB,sC]
               rfl
              refine three_ (i:=2) (j:=6) (k:=8) (Ni:=some 13) (Nj:=some 17) (Nk:=some 5) (bm 63 10) (bm 123 10) (bm 315 10) rfl rfl rfl rfl rfl rfl (by kernel_rfl) (by decide) (by decide) (by decide) (fun K hK=>?_) (fun K hK=>?_) (fun K hK=>?_)
              ·skip
               refine Kd.N_make_step (Kd.slice 26 k26) (w0:=w1) w1.heap.size 22 (by rfl) (N':=13) rfl 100 (.tmp 12) (.tmp 12) rfl ((n + 1:Nat):Int) (by (simp [Act.eval,HWK.out];done)) (by (simp [Act.eval,HWK.out];done)) Try.underlying100 (.slice none 0 0) 24 info22 rfl (by decide) (by decide) [] (ok:=fun k=>k = _) (okp:=fun _=>False) (fk_slice (Kd.F_nil _ _ _) (Nat.le_refl 0)) (fun _ hk=>hk.elim) rfl (by omega) (by have:=HN.out;omega) HB1.out HB1.out.size ?_
               intro v13_ w_ hN hB hg hat
               simp only [Int.toNat_natCast] at hN
               have HNW:=Aside0.mk (n_made_tight hN hat)
               have H4:=Aside0.mk (Kd.N_below H4.out (grown_below hg))
               have HB1:=Aside0.mk hB
               have H2:=HNW
               clear hN hB hg hat
               refine hK.out _ _ trivial (fun hHeld=>?_)
               clear hK K
               refine norm_ (a':=?_) ?_ ?_
               rotate_left
               ·show Act.put _ (some 13) _ = _
                simp only [Act.put,sA,sB,sC,i64_w,i32_w]
                rfl
               exact norm_ (by (simp only [putAll,Act.put,sA,sB,sC];done)) (hJ2_4 (v13_,v15_) _ ⟨⟨H2.out,H4.out⟩,HB1.out⟩)
              ·skip
               refine Kd.N_make_step (Kd.slice 91 k91) (w0:=w1) w1.heap.size 24 (by rfl) (N':=17) rfl 101 (.tmp 16) (.tmp 16) rfl (n:Int) (by rfl) (by rfl) Try.underlying101 (.slice none 0 0) 24 info24 rfl (by decide) (by decide) [] (ok:=fun k=>k = _) (okp:=fun _=>False) (fk_slice (Kd.F_nil _ _ _) (Nat.le_refl 0)) (fun _ hk=>hk.elim) rfl (by omega) (by have:=HN.out;omega) HB1.out HB1.out.size ?_
               intro v17_ w_ hN hB hg hat
               simp only [Int.toNat_natCast] at hN
               have HNW:=Aside0.mk (n_made_tight hN hat)
               have H4:=Aside0.mk (Kd.N_below H4.out (grown_below hg))
               have HB1:=Aside0.mk hB
               have H6:=HNW
               clear hN hB hg hat
               refine hK.out _ _ trivial (fun hHeld=>?_)
               clear hK K
               refine norm_ (a':=?_) ?_ ?_
               rotate_left
               ·show Act.put _ (some 17) _ = _
                simp only [Act.put,sA,sB,sC,i64_w,i32_w]
                rfl
               exact norm_ (by (simp only [putAll,Act.put,sA,sB,sC];done)) (hJ4_6 (v15_,v17_) _ ⟨⟨H4.out,H6.out⟩,HB1.out⟩)
              ·skip
               refine box_step ?hg (N:=5) ?hd (cs:=#[.slice none 0 0,.slice none 0 0,.slice none 0 0]) (t:=159) ?hr ?_;(case hd=>rfl);(case hg=>rfl);(case hr=>(go_simp;done))
               intro g5_ hg_ w_ hbox hb_
               have H8N:Aside0 (w1.heap.size ≤ g5_ ∧ w_.heap[g5_]? = some (.cells #[.slice none 0 0,.slice none 0 0,.slice none 0 0] 159 (0,0))):=⟨by rw [hg_];exact HB1.out.size,hbox⟩
               have H4:=Aside0.mk (Kd.N_below H4.out hb_)
               have HB1:=Aside0.mk (below_step HB1.out hb_)
               have H8:=H8N
               clear hb_ hbox hg_
               refine hK.out _ _ trivial (fun hHeld=>?_)
               clear hK K
               refine norm_ (a':=?_) ?_ ?_
               rotate_left
               ·show Act.put _ (some 5) _ = _
                simp only [Act.put,sA,sB,sC,i64_w,i32_w]
                rfl
               exact norm_ (by (simp only [putAll,Act.put,sA,sB,sC];done)) (hJ4_8 (v15_,g5_) _ ⟨⟨H4.out,H8.out⟩,HB1.out⟩)
            ·skip
             rintro v13_ w2_ ⟨h2_,hb_⟩
             have H2:Aside0 (Kd.N (Kd.slice 26 k26) 22 w2_ w1.heap.size (fun k=>some k = v13_.ownBlock) v13_ (List.replicate (n + 1) [])):=⟨h2_⟩
             have HB1:Aside0 (Below w1.heap.size w1 w2_):=⟨hb_⟩
             clear hb_ h2_
             have hHeld:True:=trivial
             refine norm_ (a':=?_) ?_ ?_
             rotate_left
             ·simp only [putAll,Act.put,sA,sB,sC]
              rfl
             refine three_ (i:=4) (j:=6) (k:=8) (Ni:=some 15) (Nj:=some 17) (Nk:=some 5) (bm 63 10) (bm 111 10) (bm 303 10) rfl rfl rfl rfl rfl rfl (by kernel_rfl) (by decide) (by decide) (by decide) (fun K hK=>?_) (fun K hK=>?_) (fun K hK=>?_)
             ·skip
              refine Kd.N_make_step Kd.bool (w0:=w1) w1.heap.size 4 (by rfl) (N':=15) rfl 54 (.tmp 14) (.tmp 14) rfl (n:Int) (by rfl) (by rfl) Try.underlying54 (.bool false) 1 info4 rfl (by decide) (by decide) false (ok:=fun k=>k = _) (okp:=fun _=>False) (fun _ _=>rfl) (fun _ hk=>hk.elim) rfl (by omega) (by have:=HN.out;omega) HB1.out HB1.out.size ?_
              intro v15_ w_ hN hB hg hat
              simp only [Int.toNat_natCast] at hN
              have HNW:=Aside0.mk (n_made_tight hN hat)
              have H2:=Aside0.mk (Kd.N_below H2.out (grown_below hg))
              have HB1:=Aside0.mk hB
              have H4:=HNW
              clear hN hB hg hat
              refine hK.out _ _ trivial (fun hHeld=>?_)
              clear hK K
              refine norm_ (a':=?_) ?_ ?_
              rotate_left
              ·show Act.put _ (some 15) _ = _
               simp only [Act.put,sA,sB,sC,i64_w,i32_w]
               rfl
              exact norm_ (by (simp only [putAll,Act.put,sA,sB,sC];done)) (hJ2_4 (v13_,v15_) _ ⟨⟨H2.out,H4.out⟩,HB1.out⟩)
             ·skip
              refine Kd.N_make_step (Kd.slice 91 k91) (w0:=w1) w1.heap.size 24 (by rfl) (N':=17) rfl 101 (.tmp 16) (.tmp 16) rfl (n:Int) (by rfl) (by rfl) Try.underlying101 (.slice none 0 0) 24 info24 rfl (by decide) (by decide) [] (ok:=fun k=>k = _) (okp:=fun _=>False) (fk_slice (Kd.F_nil _ _ _) (Nat.le_refl 0)) (fun _ hk=>hk.elim) rfl (by omega) (by have:=HN.out;omega) HB1.out HB1.out.size ?_
              intro v17_ w_ hN hB hg hat
              simp only [Int.toNat_natCast] at hN
              have HNW:=Aside0.mk (n_made_tight hN hat)
              have H2:=Aside0.mk (Kd.N_below H2.out (grown_below hg))
              have HB1:=Aside0.mk hB
              have H6:=HNW
              clear hN hB hg hat
              refine hK.out _ _ trivial (fun hHeld=>?_)
              clear hK K
              refine norm_ (a':=?_) ?_ ?_
              rotate_left
              ·show Act.put _ (some 17) _ = _
               simp only [Act.put,sA,sB,sC,i64_w,i32_w]
               rfl
              exact norm_ (by (simp only [putAll,Act.put,sA,sB,sC];done)) (hJ2_6 (v13_,v17_) _ ⟨⟨H2.out,H6.out⟩,HB1.out⟩)
             ·skip
              refine box_step ?hg (N:=5) ?hd (cs:=#[.slice none 0 0,.slice none 0 0,.slice none 0 0]) (t:=159) ?hr ?_;(case hd=>rfl);(case hg=>rfl);(case hr=>(go_simp;done))
              intro g5_ hg_ w_ hbox hb_
              have H8N:Aside0 (w1.heap.size ≤ g5_ ∧ w_.heap[g5_]? = some (.cells #[.slice none 0 0,.slice none 0 0,.slice none 0 0] 159 (0,0))):=⟨by rw [hg_];exact HB1.out.size,hbox⟩
              have H2:=Aside0.mk (Kd.N_below H2.out hb_)
              have HB1:=Aside0.mk (below_step HB1.out hb_)
              have H8:=H8N
              clear hb_ hbox hg_
              refine hK.out _ _ trivial (fun hHeld=>?_)
              clear hK K
              refine norm_ (a':=?_) ?_ ?_
              rotate_left
              ·show Act.put _ (some 5) _ = _
               simp only [Act.put,sA,sB,sC,i64_w,i32_w]
               rfl
              exact norm_ (by (simp only [putAll,Act.put,sA,sB,sC];done)) (hJ2_8 (v13_,g5_) _ ⟨⟨H2.out,H8.out⟩,HB1.out⟩)
           ·skip
            rintro ⟨v17_,g5_⟩ w68_ ⟨⟨h6_,h8_⟩,hb_⟩
            have H6:Aside0 (Kd.N (Kd.slice 91 k91) 24 w68_ w1.heap.size (fun k=>some k = v17_.ownBlock) v17_ (List.replicate n [])):=⟨h6_⟩
            have H8:Aside0 (w1.heap.size ≤ g5_ ∧ w68_.heap[g5_]? = some (.cells #[.slice none 0 0,.slice none 0 0,.slice none 0 0] 159 (0,0))):=⟨h8_⟩
            have HB1:Aside0 (Below w1.heap.size w1 w68_):=⟨hb_⟩
            clear hb_ h6_ h8_
            have hHeld:True:=trivial
            refine norm_ (a':=?_) ?_ ?_
            rotate_left
            ·simp only [putAll,Act.put,sA,sB,sC]
             rfl
            refine two_ (i:=2) (j:=4) (Ni:=some 13) (Nj:=some 15) (bm 367 10) (bm 379 10) rfl rfl rfl rfl (by kernel_rfl) (by decide) (by decide) (fun K hK=>?_) (fun K hK=>?_)
            ·skip
             refine Kd.N_make_step (Kd.slice 26 k26) (w0:=w1) w1.heap.size 22 (by rfl) (N':=13) rfl 100 (.tmp 12) (.tmp 12) rfl ((n + 1:Nat):Int) (by (simp [Act.eval,HWK.out];done)) (by (simp [Act.eval,HWK.out];done)) Try.underlying100 (.slice none 0 0) 24 info22 rfl (by decide) (by decide) [] (ok:=fun k=>k = _) (okp:=fun _=>False) (fk_slice (Kd.F_nil _ _ _) (Nat.le_refl 0)) (fun _ hk=>hk.elim) rfl (by omega) (by have:=HN.out;omega) HB1.out HB1.out.size ?_
             intro v13_ w_ hN hB hg hat
             simp only [Int.toNat_natCast] at hN
             have HNW:=Aside0.mk (n_made_tight hN hat)
             have H6:=Aside0.mk (Kd.N_below H6.out (grown_below hg))
             have H8:=Aside0.mk (And.intro H8.out.1 (((grown_below hg).block _ (blk_lt H8.out.2)).trans H8.out.2))
             have HB1:=Aside0.mk hB
             have H2:=HNW
             clear hN hB hg hat
             refine hK.out _ _ trivial (fun hHeld=>?_)
             clear hK K
             refine norm_ (a':=?_) ?_ ?_
             rotate_left
             ·show Act.put _ (some 13) _ = _
              simp only [Act.put,sA,sB,sC,i64_w,i32_w]
              rfl
             exact norm_ (by (simp only [putAll,Act.put,sA,sB,sC];done)) (hJ2_6_8 (v13_,v17_,g5_) _ ⟨⟨H2.out,H6.out,H8.out⟩,HB1.out⟩)
            ·skip
             refine Kd.N_make_step Kd.bool (w0:=w1) w1.heap.size 4 (by rfl) (N':=15) rfl 54 (.tmp 14) (.tmp 14) rfl (n:Int) (by rfl) (by rfl) Try.underlying54 (.bool false) 1 info4 rfl (by decide) (by decide) false (ok:=fun k=>k = _) (okp:=fun _=>False) (fun _ _=>rfl) (fun _ hk=>hk.elim) rfl (by omega) (by have:=HN.out;omega) HB1.out HB1.out.size ?_
             intro v15_ w_ hN hB hg hat
             simp only [Int.toNat_natCast] at hN
             have HNW:=Aside0.mk (n_made_tight hN hat)
             have H6:=Aside0.mk (Kd.N_below H6.out (grown_below hg))
             have H8:=Aside0.mk (And.intro H8.out.1 (((grown_below hg).block _ (blk_lt H8.out.2)).trans H8.out.2))
             have HB1:=Aside0.mk hB
             have H4:=HNW
             clear hN hB hg hat
             refine hK.out _ _ trivial (fun hHeld=>?_)
             clear hK K
             refine norm_ (a':=?_) ?_ ?_
             rotate_left
             ·show Act.put _ (some 15) _ = _
              simp only [Act.put,sA,sB,sC,i64_w,i32_w]
              rfl
             exact norm_ (by (simp only [putAll,Act.put,sA,sB,sC];done)) (hJ4_6_8 (v15_,v17_,g5_) _ ⟨⟨H4.out,H6.out,H8.out⟩,HB1.out⟩)
          ·skip
           rintro ⟨v15_,g5_⟩ w48_ ⟨⟨h4_,h8_⟩,hb_⟩
           have H4:Aside0 (Kd.N Kd.bool 4 w48_ w1.heap.size (fun k=>some k = v15_.ownBlock) v15_ (List.replicate n false)):=⟨h4_⟩
           have H8:Aside0 (w1.heap.size ≤ g5_ ∧ w48_.heap[g5_]? = some (.cells #[.slice none 0 0,.slice none 0 0,.slice none 0 0] 159 (0,0))):=⟨h8_⟩
           have HB1:Aside0 (Below w1.heap.size w1 w48_):=⟨hb_⟩
           clear hb_ h4_ h8_
           have hHeld:True:=trivial
           refine norm_ (a':=?_) ?_ ?_
           rotate_left
           ·simp only [putAll,Act.put,sA,sB,sC]
            rfl
           refine two_ (i:=2) (j:=6) (Ni:=some 13) (Nj:=some 17) (bm 319 10) (bm 379 10) rfl rfl rfl rfl (by kernel_rfl) (by decide) (by decide) (fun K hK=>?_) (fun K hK=>?_)
           ·skip
            refine Kd.N_make_step (Kd.slice 26 k26) (w0:=w1) w1.heap.size 22 (by rfl) (N':=13) rfl 100 (.tmp 12) (.tmp 12) rfl ((n + 1:Nat):Int) (by (simp [Act.eval,HWK.out];done)) (by (simp [Act.eval,HWK.out];done)) Try.underlying100 (.slice none 0 0) 24 info22 rfl (by decide) (by decide) [] (ok:=fun k=>k = _) (okp:=fun _=>False) (fk_slice (Kd.F_nil _ _ _) (Nat.le_refl 0)) (fun _ hk=>hk.elim) rfl (by omega) (by have:=HN.out;omega) HB1.out HB1.out.size ?_
            intro v13_ w_ hN hB hg hat
            simp only [Int.toNat_natCast] at hN
            have HNW:=Aside0.mk (n_made_tight hN hat)
            have H4:=Aside0.mk (Kd.N_below H4.out (grown_below hg))
            have H8:=Aside0.mk (And.intro H8.out.1 (((grown_below hg).block _ (blk_lt H8.out.2)).trans H8.out.2))
            have HB1:=Aside0.mk hB
            have H2:=HNW
            clear hN hB hg hat
            refine hK.out _ _ trivial (fun hHeld=>?_)
            clear hK K
            refine norm_ (a':=?_) ?_ ?_
            rotate_left
            ·show Act.put _ (some 13) _ = _
             simp only [Act.put,sA,sB,sC,i64_w,i32_w]
             rfl
            exact norm_ (by (simp only [putAll,Act.put,sA,sB,sC];done)) (hJ2_4_8 (v13_,v15_,g5_) _ ⟨⟨H2.out,H4.out,H8.out⟩,HB1.out⟩)
           ·skip
            refine Kd.N_make_step (Kd.slice 91 k91) (w0:=w1) w1.heap.size 24 (by rfl) (N':=17) rfl 101 (.tmp 16) (.tmp 16) rfl (n:Int) (by rfl) (by rfl) Try.underlying101 (.slice none 0 0) 24 info24 rfl (by decide) (by decide) [] (ok:=fun k=>k = _) (okp:=fun _=>False) (fk_slice (Kd.F_nil _ _ _) (Nat.le_refl 0)) (fun _ hk=>hk.elim) rfl (by omega) (by have:=HN.out;omega) HB1.out HB1.out.size ?_
            intro v17_ w_ hN hB hg hat
            simp only [Int.toNat_natCast] at hN
            have HNW:=Aside0.mk (n_made_tight hN hat)
            have H4:=Aside0.mk (Kd.N_below H4.out (grown_below hg))
            have H8:=Aside0.mk (And.intro H8.out.1 (((grown_below hg).block _ (blk_lt H8.out.2)).trans H8.out.2))
            have HB1:=Aside0.mk hB
            have H6:=HNW
            clear hN hB hg hat
            refine hK.out _ _ trivial (fun hHeld=>?_)
            clear hK K
            refine norm_ (a':=?_) ?_ ?_
            rotate_left
            ·show Act.put _ (some 17) _ = _
             simp only [Act.put,sA,sB,sC,i64_w,i32_w]
             rfl
            exact norm_ (by (simp only [putAll,Act.put,sA,sB,sC];done)) (hJ4_6_8 (v15_,v17_,g5_) _ ⟨⟨H4.out,H6.out,H8.out⟩,HB1.out⟩)
         ·skip
          rintro ⟨v15_,v17_⟩ w46_ ⟨⟨h4_,h6_⟩,hb_⟩
          have H4:Aside0 (Kd.N Kd.bool 4 w46_ w1.heap.size (fun k=>some k = v15_.ownBlock) v15_ (List.replicate n false)):=⟨h4_⟩
          have H6:Aside0 (Kd.N (Kd.slice 91 k91) 24 w46_ w1.heap.size (fun k=>some k = v17_.ownBlock) v17_ (List.replicate n [])):=⟨h6_⟩
          have HB1:Aside0 (Below w1.heap.size w1 w46_):=⟨hb_⟩
          clear hb_ h4_ h6_
          have hHeld:True:=trivial
          refine norm_ (a':=?_) ?_ ?_
          rotate_left
          ·simp only [putAll,Act.put,sA,sB,sC]
           rfl
          refine two_ (i:=2) (j:=8) (Ni:=some 13) (Nj:=some 5) (bm 127 10) (bm 379 10) rfl rfl rfl rfl (by kernel_rfl) (by decide) (by decide) (fun K hK=>?_) (fun K hK=>?_)
          ·skip
           refine Kd.N_make_step (Kd.slice 26 k26) (w0:=w1) w1.heap.size 22 (by rfl) (N':=13) rfl 100 (.tmp 12) (.tmp 12) rfl ((n + 1:Nat):Int) (by (simp [Act.eval,HWK.out];done)) (by (simp [Act.eval,HWK.out];done)) Try.underlying100 (.slice none 0 0) 24 info22 rfl (by decide) (by decide) [] (ok:=fun k=>k = _) (okp:=fun _=>False) (fk_slice (Kd.F_nil _ _ _) (Nat.le_refl 0)) (fun _ hk=>hk.elim) rfl (by omega) (by have:=HN.out;omega) HB1.out HB1.out.size ?_
           intro v13_ w_ hN hB hg hat
           simp only [Int.toNat_natCast] at hN
           have HNW:=Aside0.mk (n_made_tight hN hat)
           have H4:=Aside0.mk (Kd.N_below H4.out (grown_below hg))
           have H6:=Aside0.mk (Kd.N_below H6.out (grown_below hg))
           have HB1:=Aside0.mk hB
           have H2:=HNW
           clear hN hB hg hat
           obtain ⟨A13,c13,e13⟩:=Kd.N_slice H2.out
           rw [List.length_replicate] at e13
           subst e13
           obtain ⟨A15,c15,e15⟩:=Kd.N_slice H4.out
           rw [List.length_replicate] at e15
           subst e15
           obtain ⟨A17,c17,e17⟩:=Kd.N_slice H6.out
           rw [List.length_replicate] at e17
           subst e17
           refine hK.out _ _ trivial (fun hHeld=>?_)
           clear hK K
           refine norm_ (a':=?_) ?_ ?_
           rotate_left
           ·show Act.put _ (some 13) _ = _
            simp only [Act.put,sA,sB,sC,i64_w,i32_w]
            rfl
           refine pure_ (i:=7) (N:=some 18) (v:=?_) (a':=?_) (bm 255 10) rfl rfl (by kernel_rfl) (fun _ _ _ h=>h) (Or.inl ⟨by rfl,?_⟩) ?_ ?_
           rotate_left
           ·intro w'
            go_simp
            with_reducible rfl
           rotate_left
           ·simp only [Act.put,sA,sB,sC,i64_w,i32_w]
            rfl
           exact norm_ (by (simp only [putAll,Act.put,sA,sB,sC];done)) (hJ2_4_6 ((Value.slice A13 (n + 1) c13),(Value.slice A15 n c15),(Value.slice A17 n c17)) _ ⟨⟨H2.out,H4.out,H6.out⟩,HB1.out⟩)
          ·skip
           refine box_step ?hg (N:=5) ?hd (cs:=#[.slice none 0 0,.slice none 0 0,.slice none 0 0]) (t:=159) ?hr ?_;(case hd=>rfl);(case hg=>rfl);(case hr=>(go_simp;done))
           intro g5_ hg_ w_ hbox hb_
           have H8N:Aside0 (w1.heap.size ≤ g5_ ∧ w_.heap[g5_]? = some (.cells #[.slice none 0 0,.slice none 0 0,.slice none 0 0] 159 (0,0))):=⟨by rw [hg_];exact HB1.out.size,hbox⟩
           have H4:=Aside0.mk (Kd.N_below H4.out hb_)
           have H6:=Aside0.mk (Kd.N_below H6.out hb_)
           have HB1:=Aside0.mk (below_step HB1.out hb_)
           have H8:=H8N
           clear hb_ hbox hg_
           refine hK.out _ _ trivial (fun hHeld=>?_)
           clear hK K
           refine norm_ (a':=?_) ?_ ?_
           rotate_left
           ·show Act.put _ (some 5) _ = _
            simp only [Act.put,sA,sB,sC,i64_w,i32_w]
            rfl
           exact norm_ (by (simp only [putAll,Act.put,sA,sB,sC];done)) (hJ4_6_8 (v15_,v17_,g5_) _ ⟨⟨H4.out,H6.out,H8.out⟩,HB1.out⟩)
        ·skip
         rintro ⟨v13_,g5_⟩ w28_ ⟨⟨h2_,h8_⟩,hb_⟩
         have H2:Aside0 (Kd.N (Kd.slice 26 k26) 22 w28_ w1.heap.size (fun k=>some k = v13_.ownBlock) v13_ (List.replicate (n + 1) [])):=⟨h2_⟩
         have H8:Aside0 (w1.heap.size ≤ g5_ ∧ w28_.heap[g5_]? = some (.cells #[.slice none 0 0,.slice none 0 0,.slice none 0 0] 159 (0,0))):=⟨h8_⟩
         have HB1:Aside0 (Below w1.heap.size w1 w28_):=⟨hb_⟩
         clear hb_ h2_ h8_
         have hHeld:True:=trivial
         refine norm_ (a':=?_) ?_ ?_
         rotate_left
         ·simp only [putAll,Act.put,sA,sB,sC]
          rfl
         refine two_ (i:=4) (j:=6) (Ni:=some 15) (Nj:=some 17) (bm 319 10) (bm 367 10) rfl rfl rfl rfl (by kernel_rfl) (by decide) (by decide) (fun K hK=>?_) (fun K hK=>?_)
         ·skip
          refine Kd.N_make_step Kd.bool (w0:=w1) w1.heap.size 4 (by rfl) (N':=15) rfl 54 (.tmp 14) (.tmp 14) rfl (n:Int) (by rfl) (by rfl) Try.underlying54 (.bool false) 1 info4 rfl (by decide) (by decide) false (ok:=fun k=>k = _) (okp:=fun _=>False) (fun _ _=>rfl) (fun _ hk=>hk.elim) rfl (by omega) (by have:=HN.out;omega) HB1.out HB1.out.size ?_
          intro v15_ w_ hN hB hg hat
          simp only [Int.toNat_natCast] at hN
          have HNW:=Aside0.mk (n_made_tight hN hat)
          have H2:=Aside0.mk (Kd.N_below H2.out (grown_below hg))
          have H8:=Aside0.mk (And.intro H8.out.1 (((grown_below hg).block _ (blk_lt H8.out.2)).trans H8.out.2))
          have HB1:=Aside0.mk hB
          have H4:=HNW
          clear hN hB hg hat
          refine hK.out _ _ trivial (fun hHeld=>?_)
          clear hK K
          refine norm_ (a':=?_) ?_ ?_
          rotate_left
          ·show Act.put _ (some 15) _ = _
           simp only [Act.put,sA,sB,sC,i64_w,i32_w]
           rfl
          exact norm_ (by (simp only [putAll,Act.put,sA,sB,sC];done)) (hJ2_4_8 (v13_,v15_,g5_) _ ⟨⟨H2.out,H4.out,H8.out⟩,HB1.out⟩)
         ·skip
          refine Kd.N_make_step (Kd.slice 91 k91) (w0:=w1) w1.heap.size 24 (by rfl) (N':=17) rfl 101 (.tmp 16) (.tmp 16) rfl (n:Int) (by rfl) (by rfl) Try.underlying101 (.slice none 0 0) 24 info24 rfl (by decide) (by decide) [] (ok:=fun k=>k = _) (okp:=fun _=>False) (fk_slice (Kd.F_nil _ _ _) (Nat.le_refl 0)) (fun _ hk=>hk.elim) rfl (by omega) (by have:=HN.out;omega) HB1.out HB1.out.size ?_
          intro v17_ w_ hN hB hg hat
          simp only [Int.toNat_natCast] at hN
          have HNW:=Aside0.mk (n_made_tight hN hat)
          have H2:=Aside0.mk (Kd.N_below H2.out (grown_below hg))
          have H8:=Aside0.mk (And.intro H8.out.1 (((grown_below hg).block _ (blk_lt H8.out.2)).trans H8.out.2))
          have HB1:=Aside0.mk hB
          have H6:=HNW
          clear hN hB hg hat
          refine hK.out _ _ trivial (fun hHeld=>?_)
          clear hK K
          refine norm_ (a':=?_) ?_ ?_
          rotate_left
          ·show Act.put _ (some 17) _ = _
           simp only [Act.put,sA,sB,sC,i64_w,i32_w]
           rfl
          exact norm_ (by (simp only [putAll,Act.put,sA,sB,sC];done)) (hJ2_6_8 (v13_,v17_,g5_) _ ⟨⟨H2.out,H6.out,H8.out⟩,HB1.out⟩)
       ·skip
        rintro ⟨v13_,v17_⟩ w26_ ⟨⟨h2_,h6_⟩,hb_⟩
        have H2:Aside0 (Kd.N (Kd.slice 26 k26) 22 w26_ w1.heap.size (fun k=>some k = v13_.ownBlock) v13_ (List.replicate (n + 1) [])):=⟨h2_⟩
        have H6:Aside0 (Kd.N (Kd.slice 91 k91) 24 w26_ w1.heap.size (fun k=>some k = v17_.ownBlock) v17_ (List.replicate n [])):=⟨h6_⟩
        have HB1:Aside0 (Below w1.heap.size w1 w26_):=⟨hb_⟩
        clear hb_ h2_ h6_
        have hHeld:True:=trivial
        refine norm_ (a':=?_) ?_ ?_
        rotate_left
        ·simp only [putAll,Act.put,sA,sB,sC]
         rfl
        refine two_ (i:=4) (j:=8) (Ni:=some 15) (Nj:=some 5) (bm 127 10) (bm 367 10) rfl rfl rfl rfl (by kernel_rfl) (by decide) (by decide) (fun K hK=>?_) (fun K hK=>?_)
        ·skip
         refine Kd.N_make_step Kd.bool (w0:=w1) w1.heap.size 4 (by rfl) (N':=15) rfl 54 (.tmp 14) (.tmp 14) rfl (n:Int) (by rfl) (by rfl) Try.underlying54 (.bool false) 1 info4 rfl (by decide) (by decide) false (ok:=fun k=>k = _) (okp:=fun _=>False) (fun _ _=>rfl) (fun _ hk=>hk.elim) rfl (by omega) (by have:=HN.out;omega) HB1.out HB1.out.size ?_
         intro v15_ w_ hN hB hg hat
         simp only [Int.toNat_natCast] at hN
         have HNW:=Aside0.mk (n_made_tight hN hat)
         have H2:=Aside0.mk (Kd.N_below H2.out (grown_below hg))
         have H6:=Aside0.mk (Kd.N_below H6.out (grown_below hg))
         have HB1:=Aside0.mk hB
         have H4:=HNW
         clear hN hB hg hat
         obtain ⟨A13,c13,e13⟩:=Kd.N_slice H2.out
         rw [List.length_replicate] at e13
         subst e13
         obtain ⟨A15,c15,e15⟩:=Kd.N_slice H4.out
         rw [List.length_replicate] at e15
         subst e15
         obtain ⟨A17,c17,e17⟩:=Kd.N_slice H6.out
         rw [List.length_replicate] at e17
         subst e17
         refine hK.out _ _ trivial (fun hHeld=>?_)
         clear hK K
         refine norm_ (a':=?_) ?_ ?_
         rotate_left
         ·show Act.put _ (some 15) _ = _
          simp only [Act.put,sA,sB,sC,i64_w,i32_w]
          rfl
         refine pure_ (i:=7) (N:=some 18) (v:=?_) (a':=?_) (bm 255 10) rfl rfl (by kernel_rfl) (fun _ _ _ h=>h) (Or.inl ⟨by rfl,?_⟩) ?_ ?_
         rotate_left
         ·intro w'
          go_simp
          with_reducible rfl
         rotate_left
         ·simp only [Act.put,sA,sB,sC,i64_w,i32_w]
          rfl
         exact norm_ (by (simp only [putAll,Act.put,sA,sB,sC];done)) (hJ2_4_6 ((Value.slice A13 (n + 1) c13),(Value.slice A15 n c15),(Value.slice A17 n c17)) _ ⟨⟨H2.out,H4.out,H6.out⟩,HB1.out⟩)
        ·skip
         refine box_step ?hg (N:=5) ?hd (cs:=#[.slice none 0 0,.slice none 0 0,.slice none 0 0]) (t:=159) ?hr ?_;(case hd=>rfl);(case hg=>rfl);(case hr=>(go_simp;done))
         intro g5_ hg_ w_ hbox hb_
         have H8N:Aside0 (w1.heap.size ≤ g5_ ∧ w_.heap[g5_]? = some (.cells #[.slice none 0 0,.slice none 0 0,.slice none 0 0] 159 (0,0))):=⟨by rw [hg_];exact HB1.out.size,hbox⟩
         have H2:=Aside0.mk (Kd.N_below H2.out hb_)
         have H6:=Aside0.mk (Kd.N_below H6.out hb_)
         have HB1:=Aside0.mk (below_step HB1.out hb_)
         have H8:=H8N
         clear hb_ hbox hg_
         refine hK.out _ _ trivial (fun hHeld=>?_)
         clear hK K
         refine norm_ (a':=?_) ?_ ?_
         rotate_left
         ·show Act.put _ (some 5) _ = _
          simp only [Act.put,sA,sB,sC,i64_w,i32_w]
          rfl
         exact norm_ (by (simp only [putAll,Act.put,sA,sB,sC];done)) (hJ2_6_8 (v13_,v17_,g5_) _ ⟨⟨H2.out,H6.out,H8.out⟩,HB1.out⟩)
      ·skip
       rintro ⟨v13_,v15_⟩ w24_ ⟨⟨h2_,h4_⟩,hb_⟩
       have H2:Aside0 (Kd.N (Kd.slice 26 k26) 22 w24_ w1.heap.size (fun k=>some k = v13_.ownBlock) v13_ (List.replicate (n + 1) [])):=⟨h2_⟩
       have H4:Aside0 (Kd.N Kd.bool 4 w24_ w1.heap.size (fun k=>some k = v15_.ownBlock) v15_ (List.replicate n false)):=⟨h4_⟩
       have HB1:Aside0 (Below w1.heap.size w1 w24_):=⟨hb_⟩
       clear hb_ h2_ h4_
       have hHeld:True:=trivial
       refine norm_ (a':=?_) ?_ ?_
       rotate_left
       ·simp only [putAll,Act.put,sA,sB,sC]
        rfl
       refine two_ (i:=6) (j:=8) (Ni:=some 17) (Nj:=some 5) (bm 127 10) (bm 319 10) rfl rfl rfl rfl (by kernel_rfl) (by decide) (by decide) (fun K hK=>?_) (fun K hK=>?_)
       ·skip
        refine Kd.N_make_step (Kd.slice 91 k91) (w0:=w1) w1.heap.size 24 (by rfl) (N':=17) rfl 101 (.tmp 16) (.tmp 16) rfl (n:Int) (by rfl) (by rfl) Try.underlying101 (.slice none 0 0) 24 info24 rfl (by decide) (by decide) [] (ok:=fun k=>k = _) (okp:=fun _=>False) (fk_slice (Kd.F_nil _ _ _) (Nat.le_refl 0)) (fun _ hk=>hk.elim) rfl (by omega) (by have:=HN.out;omega) HB1.out HB1.out.size ?_
        intro v17_ w_ hN hB hg hat
        simp only [Int.toNat_natCast] at hN
        have HNW:=Aside0.mk (n_made_tight hN hat)
        have H2:=Aside0.mk (Kd.N_below H2.out (grown_below hg))
        have H4:=Aside0.mk (Kd.N_below H4.out (grown_below hg))
        have HB1:=Aside0.mk hB
        have H6:=HNW
        clear hN hB hg hat
        obtain ⟨A13,c13,e13⟩:=Kd.N_slice H2.out
        rw [List.length_replicate] at e13
        subst e13
        obtain ⟨A15,c15,e15⟩:=Kd.N_slice H4.out
        rw [List.length_replicate] at e15
        subst e15
        obtain ⟨A17,c17,e17⟩:=Kd.N_slice H6.out
        rw [List.length_replicate] at e17
        subst e17
        refine hK.out _ _ trivial (fun hHeld=>?_)
        clear hK K
        refine norm_ (a':=?_) ?_ ?_
        rotate_left
        ·show Act.put _ (some 17) _ = _
         simp only [Act.put,sA,sB,sC,i64_w,i32_w]
         rfl
        refine pure_ (i:=7) (N:=some 18) (v:=?_) (a':=?_) (bm 255 10) rfl rfl (by kernel_rfl) (fun _ _ _ h=>h) (Or.inl ⟨by rfl,?_⟩) ?_ ?_
        rotate_left
        ·intro w'
         go_simp
         with_reducible rfl
        rotate_left
        ·simp only [Act.put,sA,sB,sC,i64_w,i32_w]
         rfl
        exact norm_ (by (simp only [putAll,Act.put,sA,sB,sC];done)) (hJ2_4_6 ((Value.slice A13 (n + 1) c13),(Value.slice A15 n c15),(Value.slice A17 n c17)) _ ⟨⟨H2.out,H4.out,H6.out⟩,HB1.out⟩)
       ·skip
        refine box_step ?hg (N:=5) ?hd (cs:=#[.slice none 0 0,.slice none 0 0,.slice none 0 0]) (t:=159) ?hr ?_;(case hd=>rfl);(case hg=>rfl);(case hr=>(go_simp;done))
        intro g5_ hg_ w_ hbox hb_
        have H8N:Aside0 (w1.heap.size ≤ g5_ ∧ w_.heap[g5_]? = some (.cells #[.slice none 0 0,.slice none 0 0,.slice none 0 0] 159 (0,0))):=⟨by rw [hg_];exact HB1.out.size,hbox⟩
        have H2:=Aside0.mk (Kd.N_below H2.out hb_)
        have H4:=Aside0.mk (Kd.N_below H4.out hb_)
        have HB1:=Aside0.mk (below_step HB1.out hb_)
        have H8:=H8N
        clear hb_ hbox hg_
        refine hK.out _ _ trivial (fun hHeld=>?_)
        clear hK K
        refine norm_ (a':=?_) ?_ ?_
        rotate_left
        ·show Act.put _ (some 5) _ = _
         simp only [Act.put,sA,sB,sC,i64_w,i32_w]
         rfl
        exact norm_ (by (simp only [putAll,Act.put,sA,sB,sC];done)) (hJ2_4_8 (v13_,v15_,g5_) _ ⟨⟨H2.out,H4.out,H8.out⟩,HB1.out⟩)
     ·skip
      rintro ⟨v15_,v17_,g5_⟩ w468_ ⟨⟨h4_,h6_,h8_⟩,hb_⟩
      have H4:Aside0 (Kd.N Kd.bool 4 w468_ w1.heap.size (fun k=>some k = v15_.ownBlock) v15_ (List.replicate n false)):=⟨h4_⟩
      have H6:Aside0 (Kd.N (Kd.slice 91 k91) 24 w468_ w1.heap.size (fun k=>some k = v17_.ownBlock) v17_ (List.replicate n [])):=⟨h6_⟩
      have H8:Aside0 (w1.heap.size ≤ g5_ ∧ w468_.heap[g5_]? = some (.cells #[.slice none 0 0,.slice none 0 0,.slice none 0 0] 159 (0,0))):=⟨h8_⟩
      have HB1:Aside0 (Below w1.heap.size w1 w468_):=⟨hb_⟩
      clear hb_ h4_ h6_ h8_
      have hHeld:True:=trivial
      refine norm_ (a':=?_) ?_ ?_
      rotate_left
      ·simp only [putAll,Act.put,sA,sB,sC]
       rfl
      refine one_ (i:=2) (N:=some 13) (bm 383 10) rfl rfl (by kernel_rfl) (by decide) (fun K hK=>?_)
      refine Kd.N_make_step (Kd.slice 26 k26) (w0:=w1) w1.heap.size 22 (by rfl) (N':=13) rfl 100 (.tmp 12) (.tmp 12) rfl ((n + 1:Nat):Int) (by (simp [Act.eval,HWK.out];done)) (by (simp [Act.eval,HWK.out];done)) Try.underlying100 (.slice none 0 0) 24 info22 rfl (by decide) (by decide) [] (ok:=fun k=>k = _) (okp:=fun _=>False) (fk_slice (Kd.F_nil _ _ _) (Nat.le_refl 0)) (fun _ hk=>hk.elim) rfl (by omega) (by have:=HN.out;omega) HB1.out HB1.out.size ?_
      intro v13_ w_ hN hB hg hat
      simp only [Int.toNat_natCast] at hN
      have HNW:=Aside0.mk (n_made_tight hN hat)
      have H4:=Aside0.mk (Kd.N_below H4.out (grown_below hg))
      have H6:=Aside0.mk (Kd.N_below H6.out (grown_below hg))
      have H8:=Aside0.mk (And.intro H8.out.1 (((grown_below hg).block _ (blk_lt H8.out.2)).trans H8.out.2))
      have HB1:=Aside0.mk hB
      have H2:=HNW
      clear hN hB hg hat
      obtain ⟨A13,c13,e13⟩:=Kd.N_slice H2.out
      rw [List.length_replicate] at e13
      subst e13
      obtain ⟨A15,c15,e15⟩:=Kd.N_slice H4.out
      rw [List.length_replicate] at e15
      subst e15
      obtain ⟨A17,c17,e17⟩:=Kd.N_slice H6.out
      rw [List.length_replicate] at e17
      subst e17
      refine hK.out _ _ trivial (fun hHeld=>?_)
      clear hK K
      refine norm_ (a':=?_) ?_ ?_
      rotate_left
      ·show Act.put _ (some 13) _ = _
       simp only [Act.put,sA,sB,sC,i64_w,i32_w]
       rfl
      refine pure_ (i:=7) (N:=some 18) (v:=?_) (a':=?_) (bm 511 10) rfl rfl (by kernel_rfl) (fun _ _ _ h=>h) (Or.inl ⟨by rfl,?_⟩) ?_ ?_
      rotate_left
      ·intro w'
       go_simp
       with_reducible rfl
      rotate_left
      ·simp only [Act.put,sA,sB,sC,i64_w,i32_w]
       rfl
      exact norm_ (by (simp only [putAll,Act.put,sA,sB,sC];done)) (hJ2_4_6_8 ((Value.slice A13 (n + 1) c13),(Value.slice A15 n c15),(Value.slice A17 n c17),g5_) _ ⟨⟨H2.out,H4.out,H6.out,H8.out⟩,HB1.out⟩)
    ·skip
     rintro ⟨v13_,v17_,g5_⟩ w268_ ⟨⟨h2_,h6_,h8_⟩,hb_⟩
     have H2:Aside0 (Kd.N (Kd.slice 26 k26) 22 w268_ w1.heap.size (fun k=>some k = v13_.ownBlock) v13_ (List.replicate (n + 1) [])):=⟨h2_⟩
     have H6:Aside0 (Kd.N (Kd.slice 91 k91) 24 w268_ w1.heap.size (fun k=>some k = v17_.ownBlock) v17_ (List.replicate n [])):=⟨h6_⟩
     have H8:Aside0 (w1.heap.size ≤ g5_ ∧ w268_.heap[g5_]? = some (.cells #[.slice none 0 0,.slice none 0 0,.slice none 0 0] 159 (0,0))):=⟨h8_⟩
     have HB1:Aside0 (Below w1.heap.size w1 w268_):=⟨hb_⟩
     clear hb_ h2_ h6_ h8_
     have hHeld:True:=trivial
     refine norm_ (a':=?_) ?_ ?_
     rotate_left
     ·simp only [putAll,Act.put,sA,sB,sC]
      rfl
     refine one_ (i:=4) (N:=some 15) (bm 383 10) rfl rfl (by kernel_rfl) (by decide) (fun K hK=>?_)
     refine Kd.N_make_step Kd.bool (w0:=w1) w1.heap.size 4 (by rfl) (N':=15) rfl 54 (.tmp 14) (.tmp 14) rfl (n:Int) (by rfl) (by rfl) Try.underlying54 (.bool false) 1 info4 rfl (by decide) (by decide) false (ok:=fun k=>k = _) (okp:=fun _=>False) (fun _ _=>rfl) (fun _ hk=>hk.elim) rfl (by omega) (by have:=HN.out;omega) HB1.out HB1.out.size ?_
     intro v15_ w_ hN hB hg hat
     simp only [Int.toNat_natCast] at hN
     have HNW:=Aside0.mk (n_made_tight hN hat)
     have H2:=Aside0.mk (Kd.N_below H2.out (grown_below hg))
     have H6:=Aside0.mk (Kd.N_below H6.out (grown_below hg))
     have H8:=Aside0.mk (And.intro H8.out.1 (((grown_below hg).block _ (blk_lt H8.out.2)).trans H8.out.2))
     have HB1:=Aside0.mk hB
     have H4:=HNW
     clear hN hB hg hat
     obtain ⟨A13,c13,e13⟩:=Kd.N_slice H2.out
     rw [List.length_replicate] at e13
     subst e13
     obtain ⟨A15,c15,e15⟩:=Kd.N_slice H4.out
     rw [List.length_replicate] at e15
     subst e15
     obtain ⟨A17,c17,e17⟩:=Kd.N_slice H6.out
     rw [List.length_replicate] at e17
     subst e17
     refine hK.out _ _ trivial (fun hHeld=>?_)
     clear hK K
     refine norm_ (a':=?_) ?_ ?_
     rotate_left
     ·show Act.put _ (some 15) _ = _
      simp only [Act.put,sA,sB,sC,i64_w,i32_w]
      rfl
     refine pure_ (i:=7) (N:=some 18) (v:=?_) (a':=?_) (bm 511 10) rfl rfl (by kernel_rfl) (fun _ _ _ h=>h) (Or.inl ⟨by rfl,?_⟩) ?_ ?_
     rotate_left
     ·intro w'
      go_simp
      with_reducible rfl
     rotate_left
     ·simp only [Act.put,sA,sB,sC,i64_w,i32_w]
      rfl
     exact norm_ (by (simp only [putAll,Act.put,sA,sB,sC];done)) (hJ2_4_6_8 ((Value.slice A13 (n + 1) c13),(Value.slice A15 n c15),(Value.slice A17 n c17),g5_) _ ⟨⟨H2.out,H4.out,H6.out,H8.out⟩,HB1.out⟩)
   ·skip
    rintro ⟨v13_,v15_,g5_⟩ w248_ ⟨⟨h2_,h4_,h8_⟩,hb_⟩
    have H2:Aside0 (Kd.N (Kd.slice 26 k26) 22 w248_ w1.heap.size (fun k=>some k = v13_.ownBlock) v13_ (List.replicate (n + 1) [])):=⟨h2_⟩
    have H4:Aside0 (Kd.N Kd.bool 4 w248_ w1.heap.size (fun k=>some k = v15_.ownBlock) v15_ (List.replicate n false)):=⟨h4_⟩
    have H8:Aside0 (w1.heap.size ≤ g5_ ∧ w248_.heap[g5_]? = some (.cells #[.slice none 0 0,.slice none 0 0,.slice none 0 0] 159 (0,0))):=⟨h8_⟩
    have HB1:Aside0 (Below w1.heap.size w1 w248_):=⟨hb_⟩
    clear hb_ h2_ h4_ h8_
    have hHeld:True:=trivial
    refine norm_ (a':=?_) ?_ ?_
    rotate_left
    ·simp only [putAll,Act.put,sA,sB,sC]
     rfl
    refine one_ (i:=6) (N:=some 17) (bm 383 10) rfl rfl (by kernel_rfl) (by decide) (fun K hK=>?_)
    refine Kd.N_make_step (Kd.slice 91 k91) (w0:=w1) w1.heap.size 24 (by rfl) (N':=17) rfl 101 (.tmp 16) (.tmp 16) rfl (n:Int) (by rfl) (by rfl) Try.underlying101 (.slice none 0 0) 24 info24 rfl (by decide) (by decide) [] (ok:=fun k=>k = _) (okp:=fun _=>False) (fk_slice (Kd.F_nil _ _ _) (Nat.le_refl 0)) (fun _ hk=>hk.elim) rfl (by omega) (by have:=HN.out;omega) HB1.out HB1.out.size ?_
    intro v17_ w_ hN hB hg hat
    simp only [Int.toNat_natCast] at hN
    have HNW:=Aside0.mk (n_made_tight hN hat)
    have H2:=Aside0.mk (Kd.N_below H2.out (grown_below hg))
    have H4:=Aside0.mk (Kd.N_below H4.out (grown_below hg))
    have H8:=Aside0.mk (And.intro H8.out.1 (((grown_below hg).block _ (blk_lt H8.out.2)).trans H8.out.2))
    have HB1:=Aside0.mk hB
    have H6:=HNW
    clear hN hB hg hat
    obtain ⟨A13,c13,e13⟩:=Kd.N_slice H2.out
    rw [List.length_replicate] at e13
    subst e13
    obtain ⟨A15,c15,e15⟩:=Kd.N_slice H4.out
    rw [List.length_replicate] at e15
    subst e15
    obtain ⟨A17,c17,e17⟩:=Kd.N_slice H6.out
    rw [List.length_replicate] at e17
    subst e17
    refine hK.out _ _ trivial (fun hHeld=>?_)
    clear hK K
    refine norm_ (a':=?_) ?_ ?_
    rotate_left
    ·show Act.put _ (some 17) _ = _
     simp only [Act.put,sA,sB,sC,i64_w,i32_w]
     rfl
    refine pure_ (i:=7) (N:=some 18) (v:=?_) (a':=?_) (bm 511 10) rfl rfl (by kernel_rfl) (fun _ _ _ h=>h) (Or.inl ⟨by rfl,?_⟩) ?_ ?_
    rotate_left
    ·intro w'
     go_simp
     with_reducible rfl
    rotate_left
    ·simp only [Act.put,sA,sB,sC,i64_w,i32_w]
     rfl
    exact norm_ (by (simp only [putAll,Act.put,sA,sB,sC];done)) (hJ2_4_6_8 ((Value.slice A13 (n + 1) c13),(Value.slice A15 n c15),(Value.slice A17 n c17),g5_) _ ⟨⟨H2.out,H4.out,H6.out,H8.out⟩,HB1.out⟩)
  ·skip
   rintro ⟨v13_,v15_,v17_⟩ w246_ ⟨⟨h2_,h4_,h6_⟩,hb_⟩
   have H2:Aside0 (Kd.N (Kd.slice 26 k26) 22 w246_ w1.heap.size (fun k=>some k = v13_.ownBlock) v13_ (List.replicate (n + 1) [])):=⟨h2_⟩
   have H4:Aside0 (Kd.N Kd.bool 4 w246_ w1.heap.size (fun k=>some k = v15_.ownBlock) v15_ (List.replicate n false)):=⟨h4_⟩
   have H6:Aside0 (Kd.N (Kd.slice 91 k91) 24 w246_ w1.heap.size (fun k=>some k = v17_.ownBlock) v17_ (List.replicate n [])):=⟨h6_⟩
   have HB1:Aside0 (Below w1.heap.size w1 w246_):=⟨hb_⟩
   clear hb_ h2_ h4_ h6_
   have hHeld:True:=trivial
   refine norm_ (a':=?_) ?_ ?_
   rotate_left
   ·simp only [putAll,Act.put,sA,sB,sC]
    rfl
   refine one_ (i:=8) (N:=some 5) (bm 511 10) rfl rfl (by kernel_rfl) (by decide) (fun K hK=>?_)
   refine box_step ?hg (N:=5) ?hd (cs:=#[.slice none 0 0,.slice none 0 0,.slice none 0 0]) (t:=159) ?hr ?_;(case hd=>rfl);(case hg=>rfl);(case hr=>(go_simp;done))
   intro g5_ hg_ w_ hbox hb_
   have H8N:Aside0 (w1.heap.size ≤ g5_ ∧ w_.heap[g5_]? = some (.cells #[.slice none 0 0,.slice none 0 0,.slice none 0 0] 159 (0,0))):=⟨by rw [hg_];exact HB1.out.size,hbox⟩
   have H2:=Aside0.mk (Kd.N_below H2.out hb_)
   have H4:=Aside0.mk (Kd.N_below H4.out hb_)
   have H6:=Aside0.mk (Kd.N_below H6.out hb_)
   have HB1:=Aside0.mk (below_step HB1.out hb_)
   have H8:=H8N
   clear hb_ hbox hg_
   refine hK.out _ _ trivial (fun hHeld=>?_)
   clear hK K
   refine norm_ (a':=?_) ?_ ?_
   rotate_left
   ·show Act.put _ (some 5) _ = _
    simp only [Act.put,sA,sB,sC,i64_w,i32_w]
    rfl
   exact norm_ (by (simp only [putAll,Act.put,sA,sB,sC];done)) (hJ2_4_6_8 (v13_,v15_,v17_,g5_) _ ⟨⟨H2.out,H4.out,H6.out,H8.out⟩,HB1.out⟩)
 rintro ⟨v13_,v15_,v17_,g5_⟩ w2468_ ⟨⟨h2_,h4_,h6_,h8_⟩,hb_⟩
 have H2:Aside0 (Kd.N (Kd.slice 26 k26) 22 w2468_ w1.heap.size (fun k=>some k = v13_.ownBlock) v13_ (List.replicate (n + 1) [])):=⟨h2_⟩
 have H4:Aside0 (Kd.N Kd.bool 4 w2468_ w1.heap.size (fun k=>some k = v15_.ownBlock) v15_ (List.replicate n false)):=⟨h4_⟩
 have H6:Aside0 (Kd.N (Kd.slice 91 k91) 24 w2468_ w1.heap.size (fun k=>some k = v17_.ownBlock) v17_ (List.replicate n [])):=⟨h6_⟩
 have H8:Aside0 (w1.heap.size ≤ g5_ ∧ w2468_.heap[g5_]? = some (.cells #[.slice none 0 0,.slice none 0 0,.slice none 0 0] 159 (0,0))):=⟨h8_⟩
 have HB1:Aside0 (Below w1.heap.size w1 w2468_):=⟨hb_⟩
 clear hb_ h2_ h4_ h6_ h8_
 have hHeld:True:=trivial
 obtain ⟨A13,c13,e13⟩:=Kd.N_slice H2.out
 rw [List.length_replicate] at e13
 subst e13
 obtain ⟨A15,c15,e15⟩:=Kd.N_slice H4.out
 rw [List.length_replicate] at e15
 subst e15
 obtain ⟨A17,c17,e17⟩:=Kd.N_slice H6.out
 rw [List.length_replicate] at e17
 subst e17
 refine norm_ (a':=?_) ?_ ?_
 rotate_left
 ·simp only [putAll,Act.put,sA,sB,sC]
  rfl
 refine last_ (i:=9) (N:=none) (bm 1023 10) rfl rfl (by kernel_rfl) (by decide) (fun K hK=>?_)
 have hs0:w2468_.cell? ⟨g5_,0,none⟩ = some (.slice none 0 0):=(blk_cell H8.out.2 0).trans rfl
 have hs1:w2468_.cell? ⟨g5_,1,none⟩ = some (.slice none 0 0):=(blk_cell H8.out.2 1).trans rfl
 have hs2:w2468_.cell? ⟨g5_,2,none⟩ = some (.slice none 0 0):=(blk_cell H8.out.2 2).trans rfl
 have hf0:=blk_frozen H8.out.2 0
 have hf1:=blk_frozen H8.out.2 1
 have hf2:=blk_frozen H8.out.2 2
 refine skip_ (w1:=?_) (by rfl) rfl ?_ ?_
 rotate_left
 ·go_simp
  rfl
 clear hs0 hs1 hs2 hf0 hf1 hf2
 refine hK.out _ _ ?_
 clear hK K
 refine done_ (by kernel_rfl) ?_
 have HS0:=Aside0.mk (SdS.start (w:=w) (W1:=w1) (xs0:=#[]) (HB0.out) HLT.out H8.out.1 ((HB1.out.block _ HLT.out).trans HRES.out) H8.out.2 H2.out H4.out H6.out HB1.out)
 obtain ⟨w4,hw4⟩:∃ W,W = ((w2468_.setCell ⟨g5_,0,none⟩ (Value.slice A13 (n + 1) c13)).setCell ⟨g5_,1,none⟩ (Value.slice A15 n c15)).setCell ⟨g5_,2,none⟩ (Value.slice A17 n c17):=⟨_,rfl⟩
 rw [← hw4] at HS0
 rw [← hw4]
 clear hw4 H2 H4 H6 H8 HB1 HRES HLT HB0 hwk HWK
 obtain ⟨ba,ca,eA,hba,hbl,_,_⟩:=Kd.N_form HS0.out.rA (by rw [List.length_replicate];omega)
 injection eA with eA1 _ eA2
 subst eA1
 clear hba hbl eA2
 obtain ⟨vB,hvB⟩:∃ v,v = Value.slice A15 n c15:=⟨_,rfl⟩
 obtain ⟨vC,hvC⟩:∃ v,v = Value.slice A17 n c17:=⟨_,rfl⟩
 rw [← hvB,← hvC] at HS0
 have HVB:=Aside0.mk hvB
 have HVC:=Aside0.mk hvC
 clear hvB hvC
 obtain ⟨g,hg⟩:∃ g,g = g5_:=⟨_,rfl⟩
 rw [← hg] at HS0
 rw [← hg]
 clear hg
 obtain ⟨n1,hn1⟩:∃ m,m = n + 1:=⟨_,rfl⟩
 have HS1:Aside0 (SdS w g (List.replicate (n + 1) []) (List.replicate n false) (List.replicate n []) (.slice (some ⟨ba,0,none⟩) n1 c13) vB vC w4):=⟨by rw [hn1];exact HS0.out⟩
 have HN1:=Aside0.mk hn1
 clear HS0
 have HS0:=HS1
 clear HS1
 clear hn1
 go_wp2
 go_loopg [6,21] l0.length (fun m v6 v21 wr=>∃ (i j:Nat) (As:List (List S26)) (Cs:List Bool) (Ts:List (List S91)),v6 = .int .i64 (j:Int) ∧ v21 = .int .i64 (i:Int) ∧ Aside0 (m + i = l0.length) ∧ Aside0 (SdS w g As Cs Ts (.slice (some ⟨ba,0,none⟩) n1 c13) vB vC wr) ∧ Aside0 (RdB n (l0.drop i) (As,Cs,Ts) j) ∧ Aside0 (rdL (l0.drop i) (As,Cs,Ts) j = sideOf n l0))
 case atStart=>exact ⟨0,0,_,_,_,rfl,rfl,⟨rfl⟩,HS0,HRB,⟨rfl⟩⟩
 case round =>
  clear HS0 HRB
  obtain ⟨i,j,As,Cs,Ts,rfl,rfl,HI,HS,HB,HL⟩:=hrel
  by_cases d2:i < l0.length
  rotate_left
  ·as_aux_lemma =>
    have g1:decide ((i:Int) < (l0.length:Int)) = false:=decide_eq_false (by omega)
    have g1':decide (i < l0.length) = false:=decide_eq_false d2
    have hL:=HL.out
    rw [List.drop_eq_nil_of_le (by omega),rdL] at hL
    have HD:=Aside0.mk hL
    have HBL:=Aside0.mk HB.out
    clear d2 HL hL HB
    obtain ⟨A6,n6,e6⟩:=Kd.N_slice HS.out.rB
    obtain ⟨A7,n7,e7⟩:=Kd.N_slice HS.out.rC
    rw [e6,e7] at HS
    clear e6 e7 HVB HVC
    have q0:wr.cell? ⟨g,0,none⟩ = some (.slice (some ⟨ba,0,none⟩) n1 c13):=(blk_cell HS.out.bk 0).trans rfl
    have q1:wr.cell? ⟨g,1,none⟩ = some (.slice A6 Cs.length n6):=(blk_cell HS.out.bk 1).trans rfl
    have q2:wr.cell? ⟨g,2,none⟩ = some (.slice A7 Ts.length n7):=(blk_cell HS.out.bk 2).trans rfl
    have r0:wr.cell? ⟨w.heap.size,0,none⟩ = some (.slice none 0 0):=(blk_cell HS.out.res 0).trans rfl
    have r1:wr.cell? ⟨w.heap.size,1,none⟩ = some (.slice none 0 0):=(blk_cell HS.out.res 1).trans rfl
    have r2:wr.cell? ⟨w.heap.size,2,none⟩ = some (.slice none 0 0):=(blk_cell HS.out.res 2).trans rfl
    have s0:=blk_frozen HS.out.res 0
    have s1:=blk_frozen HS.out.res 1
    have s2:=blk_frozen HS.out.res 2
    go_wp2
    obtain ⟨HF,hA,hB,hC,hBel⟩:=HS.out.last
    (try simp only [Exit.inBlock,Exit.then])
    refine bodyPost_ret (results_cell_row rfl _ _ w.heap.size 159 _ (0,0) _ rfl HF Try.underlying159 rfl (by kernel_rfl)) rfl ?_
    rw [← HD.out]
    have rA:=Kd.N_reads' hA
    have rB:=Kd.N_reads' hB
    have rC:=Kd.N_reads' hC
    rw [rA.1] at hA
    exact ⟨some ⟨ba,0,none⟩,A6,A7,c13,n6,n7,by rw [← rA.1],⟨rA.2.2,by rw [← rA.1];exact rA.2.1⟩,⟨rB.2.2,rB.2.1⟩,⟨rC.2.2,rC.2.1⟩,hBel⟩
  obtain ⟨gl,rfl⟩:∃ gl,gk = gl + 1:=⟨gk - 1,by have:=HI.out;omega⟩
  have hL:=HL.out
  rw [drop_T95 l0 i d2,rdL] at hL
  have hBd:=HB.out
  rw [drop_T95 l0 i d2] at hBd
  have hx1p:0 ≤ (rd_T95 l0 (i:Int)).f1:=HP.out _ (rd95_in d2)
  have g1:decide ((i:Int) < (l0.length:Int)) = true:=decide_eq_true (by omega)
  have g1':decide (i < l0.length) = true:=decide_eq_true d2
  have q1:(i:Int) < (l0.length:Int):=by omega
  have HWB:Aside0 (Below w.heap.size w wr):=⟨HS.out.bel⟩
  obtain ⟨ad0,A2,c2,A3,c3,e0,hx0,hx1,hx2,hx3,hl2,hg2,hl3,hg3⟩:=at_T95 HR0.out (i:Int) (by omega) q1
  cases e0
  replace hx0:=(HWB.out.cell (World.block_lt_of_cell? w _ hx0)).trans hx0
  replace hx1:=(HWB.out.cell (World.block_lt_of_cell? w _ hx1)).trans hx1
  replace hx2:=(HWB.out.cell (World.block_lt_of_cell? w _ hx2)).trans hx2
  replace hx3:=(HWB.out.cell (World.block_lt_of_cell? w _ hx3)).trans hx3
  simp only [Int.toNat_natCast] at hx0 hx1 hx2 hx3
  have HWK:Aside0 (wrap64 ((i:Int) + 1) = (i:Int) + 1):=⟨by have:=HLEN.out;exact wr64 (by omega) (by omega)⟩
  obtain ⟨x,hx⟩:∃ x,x = rd_T95 l0 (i:Int):=⟨_,rfl⟩
  rw [← hx] at hx0 hx1 hx2 hx3 hl2 hg2 hl3 hg3 hL hBd hx1p
  clear hx d2 HL HB
  have HL:=Aside0.mk hL
  have HB:=Aside0.mk hBd
  have HX1:=Aside0.mk hx1p
  have HL2:=Aside0.mk hl2
  have HL3:=Aside0.mk hl3
  have HG2:=Aside0.mk hg2
  have HG3:=Aside0.mk hg3
  clear hL hBd hl2 hl3 hg2 hg3 hx1p
  have HT:Aside0 (SdT w g As Cs Ts (.slice (some ⟨ba,0,none⟩) n1 c13) vB vC wr.heap.size x A2 c2 A3 c3 (wr.alloc (Obj.cells #[.int .i64 x.f0,.int .i64 x.f1,.slice A2 x.f2.length c2,.slice A3 x.f3.length c3] 95 (0,0)))) :=
   ⟨HS.out.made _,blk_new wr _⟩
  clear HS HWB
  obtain ⟨gs,hgs⟩:∃ k,k = wr.heap.size:=⟨_,rfl⟩
  obtain ⟨w2,hw2⟩:∃ W,W = wr.alloc (Obj.cells #[.int .i64 x.f0,.int .i64 x.f1,.slice A2 x.f2.length c2,.slice A3 x.f3.length c3] 95 (0,0)):=⟨_,rfl⟩
  go_upto_region 6 with (fail)
  clear hx0 hx1 hx2 hx3
  rw [← hw2]
  rw [← hgs,← hw2] at HT
  rw [← hgs]
  clear hgs hw2
  have hx0:w2.cell? ⟨gs,0,none⟩ = some (.int .i64 x.f0):=(blk_cell HT.out.bx 0).trans rfl
  have hx1:w2.cell? ⟨gs,1,none⟩ = some (.int .i64 x.f1):=(blk_cell HT.out.bx 1).trans rfl
  by_cases ca:x.f0 = 1
  ·as_aux_lemma =>
    have c1:(x.f0 == 1) = true:=beq_iff_eq.mpr ca
    have HCA:=Aside0.mk ca
    clear ca hx1
    have hx3:w2.cell? ⟨gs,3,none⟩ = some (.slice A3 x.f3.length c3):=(blk_cell HT.out.bx 3).trans rfl
    have hq0:w2.cell? ⟨g,0,none⟩ = some (.slice (some ⟨ba,0,none⟩) n1 c13):=(blk_cell HT.out.st.bk 0).trans rfl
    have hjn:j < n1:=by have:=HB.out.le;have:=HN1.out;omega
    have p8:(0:Int) ≤ (j:Int):=by omega
    have q8:(j:Int) < (n1:Int):=by omega
    obtain ⟨⟨u,hd8,_⟩,hf8⟩:=n_at1 rfl HT.out.st.rA [] hjn
    have HPUT:=Aside0.mk (HT.out.st.putA hjn (Kd.F_step (Kd.C_F k26_heap HG3.out) (fun k hk _=>HT.out.st.bel.block k hk)) HL3.out)
    have wk:=HWK.out
    go_wp2
    clear wk
    go_roundg gl
    case measure=>omega
    case rel =>
     have h1:=HL.out
     have h2:=HB.out.step
     rw [show rdS x (As,Cs,Ts) j = (As.set j x.f3,Cs,Ts) from if_pos HCA.out,show rdI x j = j from if_pos HCA.out] at h1 h2
     exact ⟨i + 1,j,As.set j x.f3,Cs,Ts,rfl,by simp [HWK.out],⟨by have:=HI.out;omega⟩,HPUT,⟨h2⟩,⟨h1⟩⟩
  have c1:(x.f0 == 1) = false:=beq_eq_false_iff_ne.mpr ca
  obtain ⟨M,hM⟩:∃ M,M = x.f1.toNat:=⟨_,rfl⟩
  have HM:=Aside0.mk hM
  have HCA:=Aside0.mk ca
  have HJM:Aside0 (j + M ≤ n):=⟨by have h1:=HB.out.le;rw [oldL,if_neg HCA.out] at h1;omega⟩
  clear hM ca
  by_cases cb:x.f0 = 2
  ·as_aux_lemma =>
    have cB:(x.f0 == 2) = true:=beq_iff_eq.mpr cb
    have HCB:=Aside0.mk cb
    clear cb
    go_wp2
    clear hx0 hx1
    go_loopg [53] M (fun m v53 wx=>∃ (t:Nat),v53 = .int .i64 (t:Int) ∧ Aside0 (m + t = M) ∧ Aside0 (SdT w g As (fillS Cs j true t) Ts (.slice (some ⟨ba,0,none⟩) n1 c13) vB vC gs x A2 c2 A3 c3 wx))
    case atStart=>exact ⟨0,rfl,⟨rfl⟩,HT⟩
    case round =>
     clear HT
     obtain ⟨t,rfl,HJ,HT⟩:=hrel
     by_cases d3:t < M
     rotate_left
     ·have g3:decide ((t:Int) < x.f1) = false:=decide_eq_false (by have:=HM.out;have:=HX1.out;omega)
      have HTM:Aside0 (t = M):=⟨by have:=HJ.out;omega⟩
      have hx1:wr.cell? ⟨gs,1,none⟩ = some (.int .i64 x.f1):=(blk_cell HT.out.bx 1).trans rfl
      have HWJ:Aside0 (wrap64 ((j:Int) + x.f1) = ((j + M:Nat):Int)):=⟨by have:=HM.out;have:=HX1.out;have:=HJM.out;have:=HN.out;rw [wr64 (by omega) (by omega)];omega⟩
      clear HJ d3
      have wj:=HWJ.out
      have wk:=HWK.out
      go_wp2
      clear wj wk
      go_roundg gl
      case measure=>omega
      case rel =>
       have h1:=HL.out
       have h2:=HB.out.step
       have h3:=HT.out.st
       rw [HTM.out] at h3
       rw [show rdS x (As,Cs,Ts) j = (As,fillS Cs j true x.f1.toNat,Ts) from (if_neg HCA.out).trans (if_pos HCB.out),show rdI x j = j + x.f1.toNat from if_neg HCA.out,← HM.out] at h1 h2
       exact ⟨i + 1,j + M,As,fillS Cs j true M,Ts,by simp [HWJ.out],by simp [HWK.out],⟨by have:=HI.out;omega⟩,⟨h3⟩,⟨h2⟩,⟨h1⟩⟩
     obtain ⟨g2,rfl⟩:∃ g2,gk = g2 + 1:=⟨gk - 1,by have:=HJ.out;omega⟩
     have g3:decide ((t:Int) < x.f1) = true:=decide_eq_true (by have:=HM.out;have:=HX1.out;omega)
     have hjt:j + t < n:=by have:=HJM.out;omega
     have HCL:Aside0 ((fillS Cs j true t).length = n):=⟨by rw [fillS_len];exact HB.out.c⟩
     obtain ⟨bb,cb',eB,_,_,_,_⟩:=Kd.N_form HT.out.st.rB (by rw [HCL.out];omega)
     rw [HCL.out] at eB
     rw [eB] at HT
     have HWT:Aside0 (wrap64 ((t:Int) + 1) = (t:Int) + 1):=⟨by have:=HJM.out;have:=HN.out;exact wr64 (by omega) (by omega)⟩
     have HWS:Aside0 (wrap64 ((j:Int) + (t:Int)) = ((j + t:Nat):Int)):=⟨by have:=HN.out;rw [wr64 (by omega) (by omega)];omega⟩
     have p8:(0:Int) ≤ ((j + t:Nat):Int):=by omega
     have q8:((j + t:Nat):Int) < (n:Int):=by omega
     have hq1:wr.cell? ⟨g,1,none⟩ = some (.slice (some ⟨bb,0,none⟩) n cb'):=(blk_cell HT.out.st.bk 1).trans rfl
     obtain ⟨⟨u,hd8,_⟩,hf8⟩:=n_at1 rfl HT.out.st.rB false hjt
     have HPUT:=Aside0.mk (HT.out.putB hjt true)
     rw [← eB] at HPUT
     clear eB
     have ws:IntKind.i64.wrap ((j:Int) + (t:Int)) = ((j + t:Nat):Int):=by rw [i64_w];exact HWS.out
     have wt:IntKind.i64.wrap ((t:Int) + 1) = (t:Int) + 1:=by rw [i64_w];exact HWT.out
     go_wp2
     clear wt ws
     go_roundg g2
     case measure=>omega
     case rel=>exact ⟨t + 1,by simp [HWT.out],⟨by have:=HJ.out;omega⟩,HPUT⟩
  ·as_aux_lemma =>
    have cB:(x.f0 == 2) = false:=beq_eq_false_iff_ne.mpr cb
    have HCB:=Aside0.mk cb
    clear cb
    go_wp2
    clear hx0 hx1
    go_loopg [29] M (fun m v29 wx=>∃ (t:Nat),v29 = .int .i64 (t:Int) ∧ Aside0 (m + t = M) ∧ Aside0 (SdT w g As Cs (fillS Ts j x.f2 t) (.slice (some ⟨ba,0,none⟩) n1 c13) vB vC gs x A2 c2 A3 c3 wx))
    case atStart=>exact ⟨0,rfl,⟨rfl⟩,HT⟩
    case round =>
     clear HT
     obtain ⟨t,rfl,HJ,HT⟩:=hrel
     by_cases d3:t < M
     rotate_left
     ·have g3:decide ((t:Int) < x.f1) = false:=decide_eq_false (by have:=HM.out;have:=HX1.out;omega)
      have HTM:Aside0 (t = M):=⟨by have:=HJ.out;omega⟩
      have hx1:wr.cell? ⟨gs,1,none⟩ = some (.int .i64 x.f1):=(blk_cell HT.out.bx 1).trans rfl
      have HWJ:Aside0 (wrap64 ((j:Int) + x.f1) = ((j + M:Nat):Int)):=⟨by have:=HM.out;have:=HX1.out;have:=HJM.out;have:=HN.out;rw [wr64 (by omega) (by omega)];omega⟩
      clear HJ d3
      have wj:=HWJ.out
      have wk:=HWK.out
      go_wp2
      clear wj wk
      go_roundg gl
      case measure=>omega
      case rel =>
       have h1:=HL.out
       have h2:=HB.out.step
       have h3:=HT.out.st
       rw [HTM.out] at h3
       rw [show rdS x (As,Cs,Ts) j = (As,Cs,fillS Ts j x.f2 x.f1.toNat) from (if_neg HCA.out).trans (if_neg HCB.out),show rdI x j = j + x.f1.toNat from if_neg HCA.out,← HM.out] at h1 h2
       exact ⟨i + 1,j + M,As,Cs,fillS Ts j x.f2 M,by simp [HWJ.out],by simp [HWK.out],⟨by have:=HI.out;omega⟩,⟨h3⟩,⟨h2⟩,⟨h1⟩⟩
     obtain ⟨g2,rfl⟩:∃ g2,gk = g2 + 1:=⟨gk - 1,by have:=HJ.out;omega⟩
     have g3:decide ((t:Int) < x.f1) = true:=decide_eq_true (by have:=HM.out;have:=HX1.out;omega)
     have hjt:j + t < n:=by have:=HJM.out;omega
     have HCL:Aside0 ((fillS Ts j x.f2 t).length = n):=⟨by rw [fillS_len];exact HB.out.t⟩
     obtain ⟨bb,cb',eB,_,_,_,_⟩:=Kd.N_form HT.out.st.rC (by rw [HCL.out];omega)
     rw [HCL.out] at eB
     rw [eB] at HT
     have HWT:Aside0 (wrap64 ((t:Int) + 1) = (t:Int) + 1):=⟨by have:=HJM.out;have:=HN.out;exact wr64 (by omega) (by omega)⟩
     have HWS:Aside0 (wrap64 ((j:Int) + (t:Int)) = ((j + t:Nat):Int)):=⟨by have:=HN.out;rw [wr64 (by omega) (by omega)];omega⟩
     have p8:(0:Int) ≤ ((j + t:Nat):Int):=by omega
     have q8:((j + t:Nat):Int) < (n:Int):=by omega
     have hq1:wr.cell? ⟨g,2,none⟩ = some (.slice (some ⟨bb,0,none⟩) n cb'):=(blk_cell HT.out.st.bk 2).trans rfl
     have hx2:wr.cell? ⟨gs,2,none⟩ = some (.slice A2 x.f2.length c2):=(blk_cell HT.out.bx 2).trans rfl
     obtain ⟨⟨u,hd8,_⟩,hf8⟩:=n_at1 rfl HT.out.st.rC [] hjt
     have HPUT:=Aside0.mk (HT.out.putC hjt (Kd.F_step (Kd.C_F k91_heap HG2.out) (fun k hk _=>HT.out.st.bel.block k hk)) HL2.out)
     rw [← eB] at HPUT
     clear eB
     have ws:IntKind.i64.wrap ((j:Int) + (t:Int)) = ((j + t:Nat):Int):=by rw [i64_w];exact HWS.out
     have wt:IntKind.i64.wrap ((t:Int) + 1) = (t:Int) + 1:=by rw [i64_w];exact HWT.out
     go_wp2
     clear wt ws
     go_roundg g2
     case measure=>omega
     case rel=>exact ⟨t + 1,by simp [HWT.out],⟨by have:=HJ.out;omega⟩,HPUT⟩
end Go.Proofs.Ytlcodfjlbhjkbaa.PDelta
end
section
namespace Go.Proofs.Ytlcodfjlbhjkbaa.PDelta
open Go.RowKit Go.Proofs.YtlcodfjlbhjkbaaW.PrintWords Go.Proofs.YtlcodfjlbhjkbaaW.PrintLast Go.Proofs.YtlcodfjlbhjkbaaW.PrintMore
attribute [local go_sem] max2_int min2_int max_two min_two max_three min_three max_four min_four
attribute [local go_sem high] Go.Proofs.Ytlcodfjlbhjkbaa.Ord.leq_str Go.Proofs.Ytlcodfjlbhjkbaa.Ord.gtr_str Go.Proofs.Ytlcodfjlbhjkbaa.Ord.geq_str
theorem info56:(Try.prog.info? 56).map (fun i=>(i.zero,i.size,i.bytes)) = some (some (.agg #[(.int .i64 0),(.int .i64 0),(.int .i64 0),(.int .i64 0),(.string ⟨#[]⟩)]),5,48):=by kernel_rfl
structure S56 where
 f0:Int
 f1:Int
 f2:Int
 f3:Int
 f4:ByteArray
def k56:Kd S56:=Kd.iso (Kd.pair (Kd.int .i64) (Kd.pair (Kd.int .i64) (Kd.pair (Kd.int .i64) (Kd.pair (Kd.int .i64) Kd.string)))) (fun x:S56=>(x.f0,x.f1,x.f2,x.f3,x.f4))
theorem k56_open {w:World} {x:S56} {cs:List Value} (h:k56.K w x cs):cs = [.int .i64 x.f0,.int .i64 x.f1,.int .i64 x.f2,.int .i64 x.f3,.string x.f4]:=by
 obtain ⟨_,_,rfl,rfl,⟨_,_,rfl,rfl,⟨_,_,rfl,rfl,⟨_,_,rfl,rfl,rfl⟩⟩⟩⟩:=h
 exact rfl
theorem k56_mk (w:World) (x:S56) :k56.K w x [.int .i64 x.f0,.int .i64 x.f1,.int .i64 x.f2,.int .i64 x.f3,.string x.f4]:=⟨[.int .i64 x.f0],[.int .i64 x.f1,.int .i64 x.f2,.int .i64 x.f3,.string x.f4],rfl,rfl,⟨[.int .i64 x.f1],[.int .i64 x.f2,.int .i64 x.f3,.string x.f4],rfl,rfl,⟨[.int .i64 x.f2],[.int .i64 x.f3,.string x.f4],rfl,rfl,⟨[.int .i64 x.f3],[.string x.f4],rfl,rfl,rfl⟩⟩⟩⟩
theorem k56_mkM (w:World) (base:Nat) (ok:Nat → Prop) (x:S56) :k56.M w base ok x [.int .i64 x.f0,.int .i64 x.f1,.int .i64 x.f2,.int .i64 x.f3,.string x.f4]:=⟨[.int .i64 x.f0],[.int .i64 x.f1,.int .i64 x.f2,.int .i64 x.f3,.string x.f4],rfl,rfl,⟨[.int .i64 x.f1],[.int .i64 x.f2,.int .i64 x.f3,.string x.f4],rfl,rfl,⟨[.int .i64 x.f2],[.int .i64 x.f3,.string x.f4],rfl,rfl,⟨[.int .i64 x.f3],[.string x.f4],rfl,rfl,rfl⟩⟩⟩⟩
theorem k56_mkF (W:World) (ok:Nat → Prop) (x:S56):Kd.FK k56 W ok x [.int .i64 x.f0,.int .i64 x.f1,.int .i64 x.f2,.int .i64 x.f3,.string x.f4]:=fun W2 _=>k56_mk W2 x
end Go.Proofs.Ytlcodfjlbhjkbaa.PDelta
end
section
namespace Go.Proofs.Ytlcodfjlbhjkbaa.PDelta
open Go.RowKit Go.Proofs.YtlcodfjlbhjkbaaW.PrintWords Go.Proofs.YtlcodfjlbhjkbaaW.PrintLast Go.Proofs.YtlcodfjlbhjkbaaW.PrintMore
structure JoD (w0:World) (g:Nat) (nd:Int) (out:List S26) (bad:List S56) (v u:Value) (w:World):Prop where
 ge:w0.heap.size ≤ g
 blk:w.heap[g]? = some (.cells #[.int .i64 nd,v,u] 164 (0,0))
 rv:Kd.N k26 26 w w0.heap.size (fun k=>k ≠ g ∧ some k ≠ u.ownBlock) v out
 ru:Kd.N k56 56 w w0.heap.size (fun k=>k ≠ g ∧ some k ≠ v.ownBlock) u bad
 bel:Below w0.heap.size w0 w
section
variable {w0 w w1:World} {g:Nat} {nd:Int} {out out':List S26} {bad bad':List S56} {v u v1 u1:Value}
theorem JoD.below (h:JoD w0 g nd out bad v u w) (hb:Below w.heap.size w w1):JoD w0 g nd out bad v u w1 :=
 ⟨h.ge,(hb.block _ (blk_lt h.blk)).trans h.blk,Kd.N_below h.rv hb,Kd.N_below h.ru hb,below_step h.bel hb⟩
theorem JoD.drew (h:JoD w0 g nd out bad v u w):JoD w0 g nd out bad v u w.drew:=h.below (below_drew1 (Below.refl _ _))
theorem JoD.lt (h:JoD w0 g nd out bad v u w):g < w.heap.size:=blk_lt h.blk
theorem JoD.freshV (h:JoD w0 g nd out bad v u w):∀ k,w.heap.size ≤ k → k ≠ g ∧ some k ≠ u.ownBlock:=fun k hk=>⟨by have:=h.lt;omega,own_fresh (Kd.N_lt h.ru) hk⟩
theorem JoD.freshU (h:JoD w0 g nd out bad v u w):∀ k,w.heap.size ≤ k → k ≠ g ∧ some k ≠ v.ownBlock:=fun k hk=>⟨by have:=h.lt;omega,own_fresh (Kd.N_lt h.rv) hk⟩
theorem JoD.old (h:JoD w0 g nd out bad v u w):∀ k,k < w0.heap.size → (k ≠ g ∧ some k ≠ u.ownBlock) ∧ some k ≠ v.ownBlock:=fun k hk =>
 ⟨⟨by have:=h.ge;omega,fun e=>by have:=Kd.N_base h.ru k e.symm;omega⟩,fun e=>by have:=Kd.N_base h.rv k e.symm;omega⟩
theorem JoD.appV (h:JoD w0 g nd out bad v u w) (hN:Kd.N k26 26 w1 w0.heap.size (fun k=>k ≠ g ∧ some k ≠ u.ownBlock) v1 out') (hB:Below w0.heap.size w0 w1) (hg:w.grownBy w1 v.ownBlock) (hat:v1.ownBlock = v.ownBlock ∨ ∃ b,v1.ownBlock = some b ∧ w.heap.size ≤ b) :
 w1.heap[g]? = some (.cells #[.int .i64 nd,v,u] 164 (0,0)) ∧ JoD w0 g nd out' bad v1 u (w1.setCell ⟨g,1,none⟩ v1):=by
 have hb:=blk_grown h.blk hg (Kd.N_ne h.rv h.blk (by decide))
 exact ⟨hb,h.ge,blk_put hb 1 v1 rfl,Kd.N_far hN (fun _ hk=>hk.1) v1,Kd.N_far (Kd.N_after (ok:=fun k=>k ≠ g) h.ru hg hat) (fun _ hk=>hk.1) v1,below_set hB h.ge⟩
theorem JoD.appU (h:JoD w0 g nd out bad v u w) (hN:Kd.N k56 56 w1 w0.heap.size (fun k=>k ≠ g ∧ some k ≠ v.ownBlock) u1 bad') (hB:Below w0.heap.size w0 w1) (hg:w.grownBy w1 u.ownBlock) (hat:u1.ownBlock = u.ownBlock ∨ ∃ b,u1.ownBlock = some b ∧ w.heap.size ≤ b) :
 w1.heap[g]? = some (.cells #[.int .i64 nd,v,u] 164 (0,0)) ∧ JoD w0 g nd out bad' v u1 (w1.setCell ⟨g,2,none⟩ u1):=by
 have hb:=blk_grown h.blk hg (Kd.N_ne h.ru h.blk (by decide))
 exact ⟨hb,h.ge,blk_put hb 2 u1 rfl,Kd.N_far (Kd.N_after (ok:=fun k=>k ≠ g) h.rv hg hat) (fun _ hk=>hk.1) u1,Kd.N_far hN (fun _ hk=>hk.1) u1,below_set hB h.ge⟩
end
structure JoK (w0:World) (g x:Nat) (ob:Obj) (nd:Int) (out:List S26) (bad:List S56) (v u:Value) (w:World):Prop where
 ge:w0.heap.size ≤ g
 blk:w.heap[g]? = some (.cells #[.int .i64 nd,v,u] 164 (0,0))
 rv:Kd.N k26 26 w w0.heap.size (fun k=>k ≠ g ∧ some k ≠ u.ownBlock) v out
 ru:Kd.N k56 56 w w0.heap.size (fun k=>k ≠ g ∧ some k ≠ v.ownBlock) u bad
 bel:Below w0.heap.size w0 w
 xl:x < w.heap.size
 xk:w.heap[x]? = some ob
 xg:x ≠ g
 xv:some x ≠ v.ownBlock
 xu:some x ≠ u.ownBlock
section
variable {w0 w w1:World} {g x:Nat} {ob:Obj} {nd:Int} {out out':List S26} {bad bad':List S56} {v u v1 u1:Value}
theorem JoK.toD (h:JoK w0 g x ob nd out bad v u w):JoD w0 g nd out bad v u w:=⟨h.ge,h.blk,h.rv,h.ru,h.bel⟩
theorem JoD.toK (h:JoD w0 g nd out bad v u w) (o:Obj):JoK w0 g w.heap.size o nd out bad v u (w.alloc o) :=
 ⟨h.ge,blk_alloc h.blk _,Kd.N_alloc h.rv _,Kd.N_alloc h.ru _,below_alloc h.bel _,by rw [World.size_alloc];omega,blk_new w o,by have:=h.lt;omega,own_fresh (Kd.N_lt h.rv) (Nat.le_refl _),own_fresh (Kd.N_lt h.ru) (Nat.le_refl _)⟩
theorem JoD.keep (h:JoD w0 g nd out bad v u w) (hx:x < w0.heap.size) (hk:w.heap[x]? = some ob):JoK w0 g x ob nd out bad v u w :=
 ⟨h.ge,h.blk,h.rv,h.ru,h.bel,Nat.lt_of_lt_of_le hx h.bel.size,hk,(h.old x hx).1.1,(h.old x hx).2,(h.old x hx).1.2⟩
theorem JoK.below (h:JoK w0 g x ob nd out bad v u w) (hb:Below w.heap.size w w1):JoK w0 g x ob nd out bad v u w1 :=
 ⟨h.ge,(hb.block _ (blk_lt h.blk)).trans h.blk,Kd.N_below h.rv hb,Kd.N_below h.ru hb,below_step h.bel hb,Nat.lt_of_lt_of_le h.xl hb.size,(hb.block _ h.xl).trans h.xk,h.xg,h.xv,h.xu⟩
theorem JoK.drew (h:JoK w0 g x ob nd out bad v u w):JoK w0 g x ob nd out bad v u w.drew:=h.below (below_drew1 (Below.refl _ _))
theorem JoK.freshV (h:JoK w0 g x ob nd out bad v u w):∀ k,w.heap.size ≤ k → k ≠ g ∧ some k ≠ u.ownBlock:=h.toD.freshV
theorem JoK.freshU (h:JoK w0 g x ob nd out bad v u w):∀ k,w.heap.size ≤ k → k ≠ g ∧ some k ≠ v.ownBlock:=h.toD.freshU
theorem JoK.old (h:JoK w0 g x ob nd out bad v u w):∀ k,k < w0.heap.size → (k ≠ g ∧ some k ≠ u.ownBlock) ∧ some k ≠ v.ownBlock:=h.toD.old
theorem own_apart (hx:x < w.heap.size) (hv:some x ≠ v.ownBlock) (hat:v1.ownBlock = v.ownBlock ∨ ∃ b,v1.ownBlock = some b ∧ w.heap.size ≤ b):some x ≠ v1.ownBlock:=by
 rcases hat with e | ⟨b,e,hb⟩
 ·rw [e];exact hv
 ·rw [e];intro q;injection q with q;omega
theorem JoK.appV (h:JoK w0 g x ob nd out bad v u w) (hN:Kd.N k26 26 w1 w0.heap.size (fun k=>k ≠ g ∧ some k ≠ u.ownBlock) v1 out') (hB:Below w0.heap.size w0 w1) (hg:w.grownBy w1 v.ownBlock) (hat:v1.ownBlock = v.ownBlock ∨ ∃ b,v1.ownBlock = some b ∧ w.heap.size ≤ b) :
 w1.heap[g]? = some (.cells #[.int .i64 nd,v,u] 164 (0,0)) ∧ JoK w0 g x ob nd out' bad v1 u (w1.setCell ⟨g,1,none⟩ v1):=by
 obtain ⟨h1,h2⟩:=h.toD.appV hN hB hg hat
 exact ⟨h1,h2.ge,h2.blk,h2.rv,h2.ru,h2.bel,by have:=h.xl;have:=hg.size;simp [World.setCell];omega,(Below.heap_setCell _ _ _ _ h.xg).trans ((hg.block x h.xl h.xv).trans h.xk),h.xg,own_apart h.xl h.xv hat,h.xu⟩
theorem JoK.appU (h:JoK w0 g x ob nd out bad v u w) (hN:Kd.N k56 56 w1 w0.heap.size (fun k=>k ≠ g ∧ some k ≠ v.ownBlock) u1 bad') (hB:Below w0.heap.size w0 w1) (hg:w.grownBy w1 u.ownBlock) (hat:u1.ownBlock = u.ownBlock ∨ ∃ b,u1.ownBlock = some b ∧ w.heap.size ≤ b) :
 w1.heap[g]? = some (.cells #[.int .i64 nd,v,u] 164 (0,0)) ∧ JoK w0 g x ob nd out bad' v u1 (w1.setCell ⟨g,2,none⟩ u1):=by
 obtain ⟨h1,h2⟩:=h.toD.appU hN hB hg hat
 exact ⟨h1,h2.ge,h2.blk,h2.rv,h2.ru,h2.bel,by have:=h.xl;have:=hg.size;simp [World.setCell];omega,(Below.heap_setCell _ _ _ _ h.xg).trans ((hg.block x h.xl h.xu).trans h.xk),h.xg,h.xv,own_apart h.xl h.xu hat⟩
end
def gapO (out a b:List S26) (sm:Bool):List S26:=if b.length = 0 ∨ sm = true then out ++ a else out ++ a ++ b
def gapB (nd:Int) (out:List S26) (bad:List S56) (a b:List S26) (sm:Bool):List S56 :=
 if b.length = 0 ∨ sm = true ∨ a.length = 0 then bad else bad ++ [⟨0,nd,(out.length:Int),((out ++ a ++ b).length:Int),⟨#[]⟩⟩]
set_option maxRecDepth 100000 in
set_option maxHeartbeats 16000000 in
theorem gap_calls (w0:World) (g x:Nat) (ob:Obj) (nd:Int) (out:List S26) (bad:List S56) (vI uI:Value) (w:World) (A:Option Addr) (ca:Nat) (a:List S26) (B:Option Addr) (cb:Nat) (b:List S26) (k:Nat) (sm:Bool) (h:JoK w0 g x ob nd out bad vI uI w)
 (ha:Kd.C k26 w0 A a.length a) (hca:a.length ≤ ca) (hb:Kd.C k26 w0 B b.length b) (hcb:b.length ≤ cb) (hs:flow_Same.f k a b = some sm) (hl:out.length + a.length + b.length ≤ 1073741824) (hlb:bad.length ≤ 1073741824) :
 Calls Try.prog 96 #[.pointer (some ⟨g,0,none⟩),.slice A a.length ca,.slice B b.length cb] w fun e w'=>e = .returned (.tuple #[]) ∧ ∃ v u,JoK w0 g x ob nd (gapO out a b sm) (gapB nd out bad a b sm) v u w':=by
 have hu26:=Try.underlying26
 have hu164:=Try.underlying164
 have hu56:=Try.underlying56
 obtain ⟨AI,cI,rfl⟩:=Kd.N_slice h.rv
 obtain ⟨BU,mU,rfl⟩:=Kd.N_slice h.ru
 have HJ:=Aside0.mk h
 have HA:=Aside0.mk ha
 have HB:=Aside0.mk hb
 have HCA:=Aside0.mk hca
 have HCB:=Aside0.mk hcb
 have HS:=Aside0.mk hs
 have HL:=Aside0.mk hl
 have HLB:=Aside0.mk hlb
 have HFA:=Aside0.mk (Kd.C_F k26_heap ha)
 have HFB:=Aside0.mk (Kd.C_F k26_heap hb)
 clear h ha hb hca hcb hs hl hlb
 have hc1:w.cell? ⟨g,1,none⟩ = some (.slice AI out.length cI):=(blk_cell HJ.out.blk 1).trans rfl
 go_enter Try.func96,Try.ntmps96
 go_upto_region 2 with (at_builtin;go_loud (refine Kd.N_append_rows k26 (w0:=w0) w0.heap.size rfl (.tmp 16) (.tmp 17) 22 26 (.agg #[.int .i64 0,.int .i64 0,.slice none 0 0]) 40 rfl Try.underlying22 info26 rfl (by decide) (by decide) _ out a _ _ _ _ (fun k=>k < w0.heap.size) rfl rfl HJ.out.rv (Kd.F_step HFA.out (fun k hk _=>HJ.out.bel.block k hk)) (fun k hk=>HJ.out.old k hk) HJ.out.freshV HJ.out.bel HJ.out.bel.size (by have:=HL.out;omega) ?_;intro v1 w1 hN hB1 hg hat;obtain ⟨o1,ho1⟩:∃ l,l = out ++ a:=⟨_,rfl⟩;rw [← ho1] at hN;have HO1:=Aside0.mk ho1;clear ho1;obtain ⟨A1,n1,rfl⟩:=Kd.N_slice hN;obtain ⟨hb1,hW⟩:=HJ.out.appV hN hB1 hg hat;have HJ1:=Aside0.mk hW;have hd1:w1.cell? ⟨g,1,none⟩ = some _:=(blk_cell hb1 1).trans rfl;have hf1:=blk_frozen hb1 1;clear hN hB1 hg hat hb1 hW))
 obtain ⟨w2,hw2⟩:∃ W,W = w1.setCell ⟨g,1,none⟩ (Value.slice A1 o1.length n1):=⟨_,rfl⟩
 rw [← hw2] at HJ1
 rw [← hw2]
 clear hw2 hd1 hf1 hc1 HJ
 by_cases hb0:b.length = 0
 ·have c0:((b.length:Int) == 0) = true:=beq_iff_eq.mpr (by omega)
  have HB0:=Aside0.mk hb0
  clear hb0
  go_wp2
  refine bodyPost_ret (results_none (by rfl) _ _ _) rfl ?_
  exact ⟨rfl,_,_,by rw [gapO,if_pos (.inl HB0.out),gapB,if_pos (.inl HB0.out),← HO1.out];exact HJ1.out⟩
 have c0:((b.length:Int) == 0) = false:=beq_eq_false_iff_ne.mpr (by omega)
 have HB0:=Aside0.mk hb0
 clear hb0
 cases sm with
 | true =>
  go_wp2_with (go_at_call 135;with_reducible refine (flow_Same.calls k A ca a B cb b true _ (Kd.C_below HA.out HJ1.out.bel) HCA.out (Kd.C_below HB.out HJ1.out.bel) HCB.out HS.out).mono ?_;rintro e w3 ⟨rfl,hb3⟩;have HJ2:=Aside0.mk (HJ1.out.below hb3);clear hb3)
  refine bodyPost_ret (results_none (by rfl) _ _ _) rfl ?_
  exact ⟨rfl,_,_,by rw [gapO,if_pos (.inr rfl),gapB,if_pos (.inr (.inl rfl)),← HO1.out];exact HJ2.out⟩
 | false =>
  go_upto_if 28 with (go_at_call 135;with_reducible refine (flow_Same.calls k A ca a B cb b false _ (Kd.C_below HA.out HJ1.out.bel) HCA.out (Kd.C_below HB.out HJ1.out.bel) HCB.out HS.out).mono ?_;rintro e w3 ⟨rfl,hb3⟩;have HJ2:=Aside0.mk (HJ1.out.below hb3);clear hb3)
  clear HJ1
  have hc1:w3.cell? ⟨g,1,none⟩ = some (.slice A1 o1.length n1):=(blk_cell HJ2.out.blk 1).trans rfl
  have HL1:Aside0 (o1.length + b.length ≤ 1073741824):=⟨by rw [HO1.out,List.length_append];exact HL.out⟩
  go_upto_region 4 with (at_builtin;go_loud (refine Kd.N_append_rows k26 (w0:=w0) w0.heap.size rfl (.tmp 33) (.tmp 34) 22 26 (.agg #[.int .i64 0,.int .i64 0,.slice none 0 0]) 40 rfl Try.underlying22 info26 rfl (by decide) (by decide) _ o1 b _ _ _ _ (fun k=>k < w0.heap.size) rfl rfl HJ2.out.rv (Kd.F_step HFB.out (fun k hk _=>HJ2.out.bel.block k hk)) (fun k hk=>HJ2.out.old k hk) HJ2.out.freshV HJ2.out.bel HJ2.out.bel.size (by have:=HL1.out;omega) ?_;intro v4 w4 hN hB1 hg hat;obtain ⟨o2,ho2⟩:∃ l,l = o1 ++ b:=⟨_,rfl⟩;rw [← ho2] at hN;have HO2:=Aside0.mk ho2;clear ho2;obtain ⟨A2,n2,rfl⟩:=Kd.N_slice hN;obtain ⟨hb1,hW⟩:=HJ2.out.appV hN hB1 hg hat;have HJ3:=Aside0.mk hW;have hd1:w4.cell? ⟨g,1,none⟩ = some _:=(blk_cell hb1 1).trans rfl;have hf1:=blk_frozen hb1 1;clear hN hB1 hg hat hb1 hW))
  obtain ⟨wc,hwc⟩:∃ W,W = w4.setCell ⟨g,1,none⟩ (Value.slice A2 o2.length n2):=⟨_,rfl⟩
  rw [← hwc] at HJ3
  rw [← hwc]
  clear hwc hd1 hf1 hc1 HJ2
  have HE:Aside0 (gapO out a b false = o2):=⟨by rw [gapO,if_neg (fun e=>e.elim HB0.out (fun e=>Bool.noConfusion e)),← HO1.out,← HO2.out]⟩
  by_cases ha0:a.length = 0
  ·have c1:decide (0 < a.length) = false:=decide_eq_false (by omega)
   have HA0:=Aside0.mk ha0
   clear ha0
   go_wp2
   go_end0
   exact ⟨rfl,_,_,by rw [HE.out,gapB,if_pos (.inr (.inr HA0.out))];exact HJ3.out⟩
  ·have c1:decide (0 < a.length) = true:=decide_eq_true (by omega)
   have HE2:Aside0 (gapB nd out bad a b false = bad ++ [⟨0,nd,(out.length:Int),(o2.length:Int),⟨#[]⟩⟩]):=⟨by rw [gapB,if_neg (fun e=>e.elim HB0.out (fun e=>e.elim (fun e=>Bool.noConfusion e) ha0)),← HO1.out,← HO2.out]⟩
   clear ha0
   have HJD:=Aside0.mk HJ3.out.drew
   go_upto_region 5 with (fail)
   refine start_ (n:=21) (S:=fun w'=>w'.cell? ⟨g,0,none⟩ = some (.int .i64 nd) ∧ w'.cell? ⟨g,1,none⟩ = some (.slice A2 o2.length n2) ∧ w'.cell? ⟨g,2,none⟩ = some (.slice BU bad.length mU)) (ds:=[20]) #[false,false,false,false,false,false,false,false,false,false,false,false,false,false,false,false,false,false,false,false,false] (by kernel_rfl) rfl rfl ⟨((blk_cell HJD.out.blk 0).trans rfl),((blk_cell HJD.out.blk 1).trans rfl),((blk_cell HJD.out.blk 2).trans rfl)⟩ (fun hHeld=>?_)
   refine pure_ (i:=0) (N:=some 41) (v:=?_) (a':=?_) (bm 1 21) rfl rfl (by kernel_rfl) (fun _ _ _ h=>h) (Or.inl ⟨by rfl,?_⟩) ?_ ?_
   rotate_left
   ·intro w'
    go_simp
    with_reducible rfl
   rotate_left
   ·simp only [Act.put,sA,sB,sC,i64_w,i32_w]
    rfl
   refine pure_ (i:=1) (N:=some 42) (v:=?_) (a':=?_) (bm 3 21) rfl rfl (by kernel_rfl) (fun _ _ _ h=>h) (Or.inl ⟨by rfl,?_⟩) ?_ ?_
   rotate_left
   ·intro w'
    go_simp
    with_reducible rfl
   rotate_left
   ·simp only [Act.put,sA,sB,sC,i64_w,i32_w]
    rfl
   refine pure_ (i:=2) (N:=some 43) (v:=?_) (a':=?_) (bm 7 21) rfl rfl (by kernel_rfl) (fun _ _ _ h=>h) (Or.inl ⟨by rfl,?_⟩) ?_ ?_
   rotate_left
   ·intro w'
    go_simp
    with_reducible rfl
   rotate_left
   ·simp only [Act.put,sA,sB,sC,i64_w,i32_w]
    rfl
   refine pure_ (i:=3) (N:=some 44) (v:=?_) (a':=?_) (bm 15 21) rfl rfl (by kernel_rfl) (fun _ _ _ h=>h) (Or.inl ⟨by rfl,?_⟩) ?_ ?_
   rotate_left
   ·intro w'
    go_simp
    with_reducible rfl
   rotate_left
   ·simp only [Act.put,sA,sB,sC,i64_w,i32_w]
    rfl
   refine pure_ (i:=5) (N:=some 46) (v:=?_) (a':=?_) (bm 47 21) rfl rfl (by kernel_rfl) (fun _ _ _ h=>h) (Or.inl ⟨by rfl,?_⟩) ?_ ?_
   rotate_left
   ·intro w'
    go_simp
    with_reducible rfl
   rotate_left
   ·simp only [Act.put,sA,sB,sC,i64_w,i32_w]
    rfl
   refine pure_ (i:=6) (N:=some 47) (v:=?_) (a':=?_) (bm 111 21) rfl rfl (by kernel_rfl) (fun _ _ _ h=>h) (Or.inl ⟨by rfl,?_⟩) ?_ ?_
   rotate_left
   ·intro w'
    go_simp
    with_reducible rfl
   rotate_left
   ·simp only [Act.put,sA,sB,sC,i64_w,i32_w]
    rfl
   refine pure_ (i:=7) (N:=some 48) (v:=?_) (a':=?_) (bm 239 21) rfl rfl (by kernel_rfl) (fun _ _ _ h=>h) (Or.inl ⟨by rfl,?_⟩) ?_ ?_
   rotate_left
   ·intro w'
    go_simp
    with_reducible rfl
   rotate_left
   ·simp only [Act.put,sA,sB,sC,i64_w,i32_w]
    rfl
   refine pure_ (i:=9) (N:=some 50) (v:=?_) (a':=?_) (bm 751 21) rfl rfl (by kernel_rfl) (fun _ _ _ h=>h) (Or.inl ⟨by rfl,?_⟩) ?_ ?_
   rotate_left
   ·intro w'
    go_simp
    with_reducible rfl
   rotate_left
   ·simp only [Act.put,sA,sB,sC,i64_w,i32_w]
    rfl
   refine pure_ (i:=10) (N:=some 51) (v:=?_) (a':=?_) (bm 1775 21) rfl rfl (by kernel_rfl) (fun _ _ _ h=>h) (Or.inl ⟨by rfl,?_⟩) ?_ ?_
   rotate_left
   ·intro w'
    go_simp
    with_reducible rfl
   rotate_left
   ·simp only [Act.put,sA,sB,sC,i64_w,i32_w]
    rfl
   refine pure_ (i:=11) (N:=some 52) (v:=?_) (a':=?_) (bm 3823 21) rfl rfl (by kernel_rfl) (fun _ _ _ h=>h) (Or.inl ⟨by rfl,?_⟩) ?_ ?_
   rotate_left
   ·intro w'
    go_simp
    with_reducible rfl
   rotate_left
   ·simp only [Act.put,sA,sB,sC,i64_w,i32_w]
    rfl
   refine pure_ (i:=12) (N:=some 53) (v:=?_) (a':=?_) (bm 7919 21) rfl rfl (by kernel_rfl) (fun _ _ _ h=>h) (Or.inl ⟨by rfl,?_⟩) ?_ ?_
   rotate_left
   ·intro w'
    go_simp
    with_reducible rfl
   rotate_left
   ·simp only [Act.put,sA,sB,sC,i64_w,i32_w]
    rfl
   refine take_ (i:=4) (N:=some 45) (v:=?_) (a':=?_) (bm 7935 21) rfl rfl (by kernel_rfl) (fun _ _ _ h=>h) (Or.inl ⟨by rfl,?_⟩) hHeld ?_ ?_
   rotate_left
   ·rintro w' ⟨s0,s1,s2⟩
    go_simp
    with_reducible rfl
   rotate_left
   ·simp only [Act.put,sA,sB,sC,i64_w,i32_w]
    rfl
   refine take_ (i:=8) (N:=some 49) (v:=?_) (a':=?_) (bm 8191 21) rfl rfl (by kernel_rfl) (fun _ _ _ h=>h) (Or.inl ⟨by rfl,?_⟩) hHeld ?_ ?_
   rotate_left
   ·rintro w' ⟨s0,s1,s2⟩
    go_simp
    with_reducible rfl
   rotate_left
   ·simp only [Act.put,sA,sB,sC,i64_w,i32_w]
    rfl
   refine take_ (i:=13) (N:=some 54) (v:=?_) (a':=?_) (bm 16383 21) rfl rfl (by kernel_rfl) (fun _ _ _ h=>h) (Or.inl ⟨by rfl,?_⟩) hHeld ?_ ?_
   rotate_left
   ·rintro w' ⟨s0,s1,s2⟩
    go_simp
    with_reducible rfl
   rotate_left
   ·simp only [Act.put,sA,sB,sC,i64_w,i32_w]
    rfl
   refine pure_ (i:=14) (N:=some 55) (v:=?_) (a':=?_) (bm 32767 21) rfl rfl (by kernel_rfl) (fun _ _ _ h=>h) (Or.inl ⟨by rfl,?_⟩) ?_ ?_
   rotate_left
   ·intro w'
    go_simp
    with_reducible rfl
   rotate_left
   ·simp only [Act.put,sA,sB,sC,i64_w,i32_w]
    rfl
   refine pure_ (i:=15) (N:=some 56) (v:=?_) (a':=?_) (bm 65535 21) rfl rfl (by kernel_rfl) (fun _ _ _ h=>h) (Or.inl ⟨by rfl,?_⟩) ?_ ?_
   rotate_left
   ·intro w'
    go_simp
    with_reducible rfl
   rotate_left
   ·simp only [Act.put,sA,sB,sC,i64_w,i32_w]
    rfl
   refine one_ (i:=16) (N:=some 57) (bm 131071 21) rfl rfl (by kernel_rfl) (by decide) (fun K hK=>?_)
   refine value_ (w1:=?_) (v:=?_) (by rfl) rfl ?_ ?_
   rotate_left 2
   ·go_simp
    constructor
    ·rfl
    ·rfl
   refine hK.out _ _ ⟨((blk_cell (blk_alloc HJD.out.blk _) 0).trans rfl),((blk_cell (blk_alloc HJD.out.blk _) 1).trans rfl),((blk_cell (blk_alloc HJD.out.blk _) 2).trans rfl)⟩ (fun hHeld=>?_)
   clear hK K
   refine norm_ (a':=?_) ?_ ?_
   rotate_left
   ·show Act.put _ (some 57) _ = _
    simp only [Act.put,sA,sB,sC,i64_w,i32_w]
    rfl
   refine one_ (i:=17) (N:=some 58) (bm 262143 21) rfl rfl (by kernel_rfl) (by decide) (fun K hK=>?_)
   refine Kd.N_append_step k56 (w0:=w0) w0.heap.size (by rfl) (.tmp 45) (.tmp 57) 48 56 (.agg #[.int .i64 0,.int .i64 0,.int .i64 0,.int .i64 0,.string ⟨#[]⟩]) 48 rfl Try.underlying48 info56 rfl (by decide) (by decide) _ bad ⟨0,nd,(out.length:Int),(o2.length:Int),⟨#[]⟩⟩ [.int .i64 0,.int .i64 nd,.int .i64 (out.length:Int),.int .i64 (o2.length:Int),.string ⟨#[]⟩] (fun k=>k ≠ g ∧ some k ≠ (.slice A2 o2.length n2:Value).ownBlock) (fun _=>False) (by rfl) (by rfl) (k56_mkF _ _ ⟨0,nd,(out.length:Int),(o2.length:Int),⟨#[]⟩⟩) (fun _ hk=>hk.elim) (HJD.out.freshU) HJD.out.ru HJD.out.bel HJD.out.bel.size (by have:=HLB.out;omega) ?_
   intro u1_ w1_ hR1 hB1 hg hat
   obtain ⟨AU,nU,rfl⟩:=Kd.N_slice hR1
   obtain ⟨hb1,hW⟩:=HJD.out.appU hR1 hB1 hg hat
   have HW:=Aside0.mk hW
   have hd2:w1_.cell? ⟨g,2,none⟩ = some (.slice BU bad.length mU):=(blk_cell hb1 2).trans rfl
   have hd0:w1_.cell? ⟨g,0,none⟩ = some (.int .i64 nd):=(blk_cell hb1 0).trans rfl
   have hd1:w1_.cell? ⟨g,1,none⟩ = some (.slice A2 o2.length n2):=(blk_cell hb1 1).trans rfl
   have hdf:=blk_frozen hb1 2
   clear hR1 hB1 hg hat hb1 hW
   refine hK.out _ _ ⟨hd0,hd1,hd2⟩ (fun hHeld=>?_)
   clear hK K
   refine norm_ (a':=?_) ?_ ?_
   rotate_left
   ·show Act.put _ (some 58) _ = _
    simp only [Act.put,sA,sB,sC,i64_w,i32_w]
    rfl
   refine pure_ (i:=18) (N:=some 59) (v:=?_) (a':=?_) (bm 524287 21) rfl rfl (by kernel_rfl) (fun _ _ _ h=>h) (Or.inl ⟨by rfl,?_⟩) ?_ ?_
   rotate_left
   ·intro w'
    go_simp
    with_reducible rfl
   rotate_left
   ·simp only [Act.put,sA,sB,sC,i64_w,i32_w]
    rfl
   refine pure_ (i:=19) (N:=some 60) (v:=?_) (a':=?_) (bm 1048575 21) rfl rfl (by kernel_rfl) (fun _ _ _ h=>h) (Or.inl ⟨by rfl,?_⟩) ?_ ?_
   rotate_left
   ·intro w'
    go_simp
    with_reducible rfl
   rotate_left
   ·simp only [Act.put,sA,sB,sC,i64_w,i32_w]
    rfl
   refine last_ (i:=20) (N:=none) (bm 2097151 21) rfl rfl (by kernel_rfl) (by decide) (fun K hK=>?_)
   refine skip_ (w1:=?_) (by rfl) rfl ?_ ?_
   rotate_left
   ·go_simp
    rfl
   refine hK.out _ _ ?_
   clear hK K
   refine done_ (by kernel_rfl) ?_
   go_wp2
   go_end0
   exact ⟨rfl,_,_,by rw [HE.out,HE2.out];simpa using HW.out⟩
theorem named_any (d:S91) (gc:Nat) (c:S91) (w:World) (hc:w.heap[gc]? = some (.cells #[.string c.f0,.string c.f1] 91 (0,0))) :
 Calls Try.prog 137 #[.agg #[.string d.f0,.string d.f1],.pointer (some ⟨gc,0,none⟩)] w fun e w'=>e = .returned (.bool (d.f0.toList == c.f0.toList)) ∧ Below w.heap.size w w':=by
 have HC:=Aside0.mk hc
 have hq:(w.alloc (.cells #[.string d.f0,.string d.f1] 91)).cell? ⟨gc,0,none⟩ = some (.string c.f0):=(blk_cell (blk_alloc hc _) 0).trans rfl
 have hq0:w.cell? ⟨gc,0,none⟩ = some (.string c.f0):=(blk_cell hc 0).trans rfl
 clear hc
 go_enter Try.func137,Try.ntmps137
 go_wp2
 go_ret
 exact ⟨rfl,below_alloc (Below.refl _ _) _⟩
def idxL (b:List S91) (c:S91):Nat → Nat → Int
 | _,0=>-1
 | i,m + 1=>if (rd_T91 b (i:Int)).f0.toList == c.f0.toList then (i:Int) else idxL b c (i + 1) m
def idxP (b:List S91) (c:S91):Int:=idxL b c 0 b.length
theorem wr64' {x:Int} (h0:-9223372036854775808 ≤ x) (h1:x ≤ 9223372036854775807):wrap64 x = x:=by unfold wrap64;omega
set_option maxRecDepth 100000 in
set_option maxHeartbeats 4000000 in
theorem idx_calls (B:Option Addr) (cb:Nat) (b:List S91) (gc:Nat) (c:S91) (w:World) (hb:Kd.C k91 w B b.length b) (hcb:b.length ≤ cb) (hc:w.heap[gc]? = some (.cells #[.string c.f0,.string c.f1] 91 (0,0))) (hl:b.length ≤ 1073741824) :
 Calls Try.prog 136 #[.slice B b.length cb,.func (.func 137) #[] #[.pointer (some ⟨gc,0,none⟩)]] w fun e w'=>e = .returned (.int .i64 (idxP b c)) ∧ Below w.heap.size w w':=by
 have eg:∀ args w,(callFunc 137 args).run Try.prog w = .ok (.enter 137 args) w:=enters_of Try.func137 (by kernel_rfl) rfl
 have hu91:=Try.underlying91
 have HR:=Aside0.mk hb
 have HC:=Aside0.mk hc
 have HL:=Aside0.mk hl
 clear hb hcb hc hl
 go_enter Try.func136,Try.ntmps136
 go_wp2
 go_loopg [8] b.length (fun m v8 wr=>∃ (i:Nat),v8 = .int .i64 (i:Int) ∧ Aside0 (m + i = b.length) ∧ Aside0 (Below w.heap.size w wr) ∧ Aside0 (idxL b c i m = idxP b c))
 case atStart=>exact ⟨0,rfl,⟨rfl⟩,⟨Below.refl _ _⟩,⟨rfl⟩⟩
 case round =>
  obtain ⟨i,rfl,HI,HB,HX⟩:=hrel
  by_cases d2:i < b.length
  rotate_left
  ·have g1:decide ((i:Int) < (b.length:Int)) = false:=decide_eq_false (by omega)
   have g1':decide (i < b.length) = false:=decide_eq_false d2
   have HD:Aside0 (idxP b c = -1):=⟨by have h1:=HI.out;have h2:=HX.out;rw [show gk = 0 by omega] at h2;exact h2.symm⟩
   clear d2 HX
   go_wp2
   go_ret
   exact ⟨by rw [HD.out];rfl,HB.out⟩
  obtain ⟨gl,rfl⟩:∃ gl,gk = gl + 1:=⟨gk - 1,by have:=HI.out;omega⟩
  have g1:decide ((i:Int) < (b.length:Int)) = true:=decide_eq_true (by omega)
  have g1':decide (i < b.length) = true:=decide_eq_true d2
  have q1:(i:Int) < (b.length:Int):=by omega
  obtain ⟨ad0,e0,hx0,hx1⟩:=at_T91 HR.out (i:Int) (by omega) q1
  cases e0
  replace hx0:=(HB.out.cell (World.block_lt_of_cell? w _ hx0)).trans hx0
  replace hx1:=(HB.out.cell (World.block_lt_of_cell? w _ hx1)).trans hx1
  simp only [Int.toNat_natCast] at hx0 hx1
  have HW:Aside0 (wrap64 ((i:Int) + 1) = (i:Int) + 1):=⟨by have:=HL.out;exact wr64' (by omega) (by omega)⟩
  have HX1:=Aside0.mk (show (if (rd_T91 b (i:Int)).f0.toList == c.f0.toList then (i:Int) else idxL b c (i + 1) gl) = idxP b c from HX.out)
  obtain ⟨x,hx⟩:∃ x,x = rd_T91 b (i:Int):=⟨_,rfl⟩
  rw [← hx] at hx0 hx1 HX1
  clear hx d2 HX
  have hcall:=named_any x gc c wr ((HB.out.block _ (blk_lt HC.out)).trans HC.out)
  cases hq:(x.f0.toList == c.f0.toList) with
  | true =>
   rw [hq] at hcall
   have HD:Aside0 (idxP b c = (i:Int)):=⟨by have:=HX1.out;rw [hq,if_pos rfl] at this;exact this.symm⟩
   clear hq HX1
   go_wp2_with (go_at_fn 137;refine hcall.mono ?_;rintro e w' ⟨rfl,hb'⟩)
   go_ret
   exact ⟨by rw [HD.out];rfl,below_step HB.out hb'⟩
  | false =>
   rw [hq] at hcall
   have HD:Aside0 (idxL b c (i + 1) gl = idxP b c):=⟨by have:=HX1.out;rw [hq,if_neg (by decide)] at this;exact this⟩
   clear hq HX1
   have wk:IntKind.i64.wrap ((i:Int) + 1) = (i:Int) + 1:=by rw [i64_w];exact HW.out
   go_wp2_with (go_at_fn 137;refine hcall.mono ?_;rintro e w' ⟨rfl,hb'⟩)
   clear wk
   go_roundg gl
   case measure=>omega
   case rel=>exact ⟨i + 1,by simp [HW.out],⟨by have:=HI.out;omega⟩,⟨below_step HB.out hb'⟩,HD⟩
theorem idx_range (b:List S91) (c:S91):∀ m i,i + m = b.length → idxL b c i m = -1 ∨ (0 ≤ idxL b c i m ∧ idxL b c i m < b.length)
 | 0,i,_=>.inl rfl
 | m + 1,i,h=>by
  rw [idxL]
  split
  ·exact .inr ⟨by omega,by omega⟩
  ·exact idx_range b c m (i + 1) (by omega)
structure JoX (w0:World) (g x:Nat) (nd:Int) (out:List S26) (bad:List S56) (v u:Value) (w:World):Prop where
 ge:w0.heap.size ≤ g
 gx:w0.heap.size ≤ x
 ne:g ≠ x
 lt:x < w.heap.size
 blk:w.heap[g]? = some (.cells #[.int .i64 nd,v,u] 164 (0,0))
 rv:Kd.N k26 26 w w0.heap.size (fun k=>(k ≠ g ∧ k ≠ x) ∧ some k ≠ u.ownBlock) v out
 ru:Kd.N k56 56 w w0.heap.size (fun k=>(k ≠ g ∧ k ≠ x) ∧ some k ≠ v.ownBlock) u bad
 bel:Below w0.heap.size w0 w
section
variable {w0 w w1:World} {g x:Nat} {nd:Int} {out out':List S26} {bad bad':List S56} {v u v1 u1:Value}
theorem JoD.toX (h:JoD w0 g nd out bad v u w) (o:Obj):JoX w0 g w.heap.size nd out bad v u (w.alloc o) :=
 ⟨h.ge,h.bel.size,by have:=h.lt;omega,by rw [World.size_alloc];omega,blk_alloc h.blk _,Kd.N_mono (Kd.N_alloc (Kd.N_elderB h.rv w.heap.size (Nat.le_refl _)) o) (fun _ hk=>⟨⟨hk.1.1,hk.2⟩,hk.1.2⟩),
  Kd.N_mono (Kd.N_alloc (Kd.N_elderB h.ru w.heap.size (Nat.le_refl _)) o) (fun _ hk=>⟨⟨hk.1.1,hk.2⟩,hk.1.2⟩),below_alloc h.bel _⟩
theorem JoX.toD (h:JoX w0 g x nd out bad v u w):JoD w0 g nd out bad v u w :=
 ⟨h.ge,h.blk,Kd.N_mono h.rv (fun _ hk=>⟨hk.1.1,hk.2⟩),Kd.N_mono h.ru (fun _ hk=>⟨hk.1.1,hk.2⟩),h.bel⟩
theorem JoX.below (h:JoX w0 g x nd out bad v u w) (hb:Below w.heap.size w w1):JoX w0 g x nd out bad v u w1 :=
 ⟨h.ge,h.gx,h.ne,Nat.lt_of_lt_of_le h.lt hb.size,(hb.block _ (blk_lt h.blk)).trans h.blk,Kd.N_below h.rv hb,Kd.N_below h.ru hb,below_step h.bel hb⟩
theorem JoX.drew (h:JoX w0 g x nd out bad v u w):JoX w0 g x nd out bad v u w.drew:=h.below (below_drew1 (Below.refl _ _))
theorem JoX.freshV (h:JoX w0 g x nd out bad v u w):∀ k,w.heap.size ≤ k → (k ≠ g ∧ k ≠ x) ∧ some k ≠ u.ownBlock:=fun k hk=>⟨⟨by have:=blk_lt h.blk;omega,by have:=h.lt;omega⟩,own_fresh (Kd.N_lt h.ru) hk⟩
theorem JoX.freshU (h:JoX w0 g x nd out bad v u w):∀ k,w.heap.size ≤ k → (k ≠ g ∧ k ≠ x) ∧ some k ≠ v.ownBlock:=fun k hk=>⟨⟨by have:=blk_lt h.blk;omega,by have:=h.lt;omega⟩,own_fresh (Kd.N_lt h.rv) hk⟩
theorem JoX.appV (h:JoX w0 g x nd out bad v u w) (hN:Kd.N k26 26 w1 w0.heap.size (fun k=>(k ≠ g ∧ k ≠ x) ∧ some k ≠ u.ownBlock) v1 out') (hB:Below w0.heap.size w0 w1) (hg:w.grownBy w1 v.ownBlock) (hat:v1.ownBlock = v.ownBlock ∨ ∃ b,v1.ownBlock = some b ∧ w.heap.size ≤ b) :
 w1.heap[g]? = some (.cells #[.int .i64 nd,v,u] 164 (0,0)) ∧ JoD w0 g nd out' bad v1 u (w1.setCell ⟨g,1,none⟩ v1):=by
 have hb:=blk_grown h.blk hg (Kd.N_ne h.rv h.blk (by decide))
 exact ⟨hb,h.ge,blk_put hb 1 v1 rfl,Kd.N_mono (Kd.N_far hN (fun _ hk=>hk.1.1) v1) (fun _ hk=>⟨hk.1.1,hk.2⟩),Kd.N_mono (Kd.N_far (Kd.N_after (ok:=fun k=>k ≠ g ∧ k ≠ x) h.ru hg hat) (fun _ hk=>hk.1.1) v1) (fun _ hk=>⟨hk.1.1,hk.2⟩),below_set hB h.ge⟩
theorem JoX.appU (h:JoX w0 g x nd out bad v u w) (hN:Kd.N k56 56 w1 w0.heap.size (fun k=>(k ≠ g ∧ k ≠ x) ∧ some k ≠ v.ownBlock) u1 bad') (hB:Below w0.heap.size w0 w1) (hg:w.grownBy w1 u.ownBlock) (hat:u1.ownBlock = u.ownBlock ∨ ∃ b,u1.ownBlock = some b ∧ w.heap.size ≤ b) :
 w1.heap[g]? = some (.cells #[.int .i64 nd,v,u] 164 (0,0)) ∧ JoX w0 g x nd out bad' v u1 (w1.setCell ⟨g,2,none⟩ u1):=by
 have hb:=blk_grown h.blk hg (Kd.N_ne h.ru h.blk (by decide))
 exact ⟨hb,h.ge,h.gx,h.ne,by have:=h.lt;have:=hg.size;simp [World.setCell];omega,blk_put hb 2 u1 rfl,Kd.N_far (Kd.N_after (ok:=fun k=>k ≠ g ∧ k ≠ x) h.rv hg hat) (fun _ hk=>hk.1.1) u1,Kd.N_far hN (fun _ hk=>hk.1.1) u1,below_set hB h.ge⟩
theorem JoX.put (h:JoX w0 g x nd out bad v u w) (j:Nat) (y:Value):JoX w0 g x nd out bad v u (w.setCell ⟨x,j,none⟩ y) :=
 ⟨h.ge,h.gx,h.ne,by have:=h.lt;simp [World.setCell];omega,blk_far h.blk h.ne y,Kd.N_far h.rv (fun _ hk=>hk.1.2) y,Kd.N_far h.ru (fun _ hk=>hk.1.2) y,below_set h.bel h.gx⟩
end
def clashB (b:List S91) (c:S91):Bool:=decide (0 ≤ idxP b c) && ((rd_T91 b (idxP b c)).f1.toList != c.f1.toList)
def attB (nd at_:Int) (b:List S91):List S91 → List S56 → List S56
 | [],bad=>bad
 | c :: l,bad=>attB nd at_ b l (if clashB b c then bad ++ [⟨2,nd,at_,wrap64 (at_ + 1),c.f0⟩] else bad)
theorem attB_len (nd at_:Int) (b:List S91):∀ (l:List S91) (bad:List S56),(attB nd at_ b l bad).length ≤ bad.length + l.length
 | [],bad=>Nat.le_refl _
 | c :: l,bad=>by
  rw [attB]
  refine Nat.le_trans (attB_len nd at_ b l _) ?_
  split
  ·rw [List.length_append,List.length_singleton,List.length_cons];omega
  ·rw [List.length_cons];omega
def cutC (a b:List S91) (cutA cutB:Bool):Bool:=(!cutA && decide (0 < a.length)) || (!cutB && decide (0 < b.length))
def elemO (out:List S26) (x:S26) (a b:List S91) (cutA cutB:Bool):List S26:=if (cutA || cutB) = true then out else out ++ [⟨x.f0,x.f1,mrg rawE (mrg rawE x.f2 b) a⟩]
def elemB (nd:Int) (out:List S26) (bad:List S56) (a b:List S91) (cutA cutB:Bool):List S56 :=
 if (cutA || cutB) = true then (if cutC a b cutA cutB = true then bad ++ [⟨1,nd,(out.length:Int),(out.length:Int),⟨#[]⟩⟩] else bad) else attB nd (out.length:Int) b a bad
end Go.Proofs.Ytlcodfjlbhjkbaa.PDelta
end

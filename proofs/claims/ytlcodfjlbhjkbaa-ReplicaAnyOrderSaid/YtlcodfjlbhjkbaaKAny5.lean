/- Parts of the proof of Any: nothing is claimed here by itself. -/
import Derived.Test.YtlcodfjlbhjkbaaKAny4
import Derived.StillTailTactics
import Derived.Test.YtlcodfjlbhjkbaaChecked
import Derived.Shelf.SlSortCmp.WholeK
import Derived.Sort.LotA
set_option linter.unusedVariables false
set_option linter.unusedSimpArgs false
section
namespace Go.Proofs.Ytlcodfjlbhjkbaa.PDelta
open Go.RowKit Go.Proofs.YtlcodfjlbhjkbaaW.PrintWords Go.Proofs.YtlcodfjlbhjkbaaW.PrintLast Go.Proofs.YtlcodfjlbhjkbaaW.PrintMore
attribute [local go_sem] max2_int min2_int max_two min_two max_three min_three max_four min_four
theorem blk_put {w:World} {g:Nat} {cs:Array Value} {t:TypeId} (h:w.heap[g]? = some (.cells cs t (0,0))) (o:Nat) (u:Value) (cs':Array Value) (he:cs.setIfInBounds o u = cs'):(w.setCell ⟨g,o,none⟩ u).heap[g]? = some (.cells cs' t (0,0)):=by
 subst he
 have:=blk_set h o u
 simpa using this
def PaintE (w:World) (r:List S128) (e:Ending) (w':World):Prop:=∃ v0,e = .returned v0 ∧ Kd.R k128 128 w' w.heap.size (fun _=>True) v0 r ∧ Below w.heap.size w w'
set_option maxRecDepth 100000 in
set_option maxHeartbeats 8000000 in
theorem paints_calls (A0:Option Addr) (c0:Nat) (raw:List Int) (site:Int) (r:List S128) (w:World) (hr0:Kd.C (Kd.int .i64) w A0 raw.length raw) (hc0:raw.length ≤ c0) (h:paintsF raw site = some r) :
 Calls Try.prog 35 #[.slice A0 raw.length c0,.int .i64 site] w (PaintE w r):=by
 obtain ⟨m,hm⟩:∃ m,m = min raw.length 12:=⟨_,rfl⟩
 have HM:Aside0 (m ≤ 12):=⟨by omega⟩
 have HMI:Aside0 (Builtin.min2 (.int .i64 (raw.length:Int)) (.int .i64 12) = pure (.int .i64 (m:Int))):=⟨by
  rw [min2_int]
  congr 2
  split <;> omega⟩
 have H:Aside0 (paintsL raw site m 0 0 [] = some r):=⟨by rw [hm];exact h⟩
 have HR0:=Aside0.mk hr0
 have HC0:=Aside0.mk hc0
 clear hm h hr0 hc0
 go_enter Try.func35,Try.ntmps35
 go_upto_region 3 with (fail)
 obtain ⟨w1,hw1⟩:∃ W,W = w.alloc (Obj.cells #[.slice A0 raw.length c0,.int .i64 0] 79):=⟨_,rfl⟩
 obtain ⟨gd,hgd⟩:∃ g,g = w.heap.size:=⟨_,rfl⟩
 have HP1:Aside0 (PaS w gd raw 0 (.slice none 0 0) [] w1):=⟨by
  rw [hw1,hgd]
  exact ⟨⟨A0,c0,blk_new w _,HR0.out,HC0.out⟩,Nat.le_refl _,Kd.R_nil _ _ _ _ _,below_alloc (Below.refl _ _) _⟩⟩
 rw [← hw1,← hgd]
 clear hw1 hgd HR0 HC0
 have hmi:=HMI.out
 go_wp2_with (fail)
 clear hmi
 go_loopg [5,15] m (fun n v5 v15 wr=>∃ (i u:Nat) (va:Value) (out:List S128),va = v5 ∧ v15 = .int .i64 (i:Int) ∧ Aside0 (n + i = m ∧ u ≤ 5 * i ∧ out.length = i) ∧ Aside0 (paintsL raw site n i u out = some r) ∧ Aside0 (PaS w gd raw u va out wr))
 case atStart=>exact ⟨0,0,_,[],rfl,rfl,⟨⟨rfl,by omega,rfl⟩⟩,H,HP1⟩
 case round =>
  obtain ⟨i,u,v5,out,rfl,rfl,HI,HL,HP⟩:=hrel
  clear H HP1
  by_cases d1:i < m
  rotate_left
  ·have g1:decide ((i:Int) < (m:Int)) = false:=decide_eq_false (by omega)
   have g1':decide (i < m) = false:=decide_eq_false d1
   have HX:Aside0 (out = r):=⟨by
    have h1:=HL.out
    have h2:gk = 0:=by have:=HI.out;omega
    rw [h2] at h1
    exact Option.some.inj h1⟩
   clear d1
   go_wp2
   go_ret
   exact ⟨_,rfl,by rw [← HX.out];exact HP.out.row,HP.out.bel⟩
  have g1:decide ((i:Int) < (m:Int)) = true:=decide_eq_true (by omega)
  have g1':decide (i < m) = true:=decide_eq_true d1
  obtain ⟨gl,rfl⟩:∃ gl,gk = gl + 1:=⟨gk - 1,by have:=HI.out;omega⟩
  have hl:=HL.out
  rw [paintsL] at hl
  obtain ⟨px,hpx,hl⟩:=Option.bind_eq_some_iff.1 hl
  unfold paintF at hpx
  obtain ⟨a,ha,hpx⟩:=Option.bind_eq_some_iff.1 hpx
  obtain ⟨b,hb,hpx⟩:=Option.bind_eq_some_iff.1 hpx
  obtain ⟨c,hc,hpx⟩:=Option.bind_eq_some_iff.1 hpx
  obtain ⟨a0,a1⟩:=roll_range (by omega) (by omega) ha
  obtain ⟨b0,b1⟩:=roll_range (by omega) (by omega) hb
  have HRa:=Aside0.mk ha
  have HRb:=Aside0.mk hb
  have HRc:=Aside0.mk hc
  have HLX:=Aside0.mk hl
  have HPX:=Aside0.mk hpx
  have hru:∀ x,x ≤ rollU raw x ∧ rollU raw x ≤ x + 1:=fun x=>by unfold rollU;split <;> omega
  have HUa:Aside0 (u < 4611686018427387904):=⟨by have:=HI.out;have:=HM.out;omega⟩
  have HUb:Aside0 (rollU raw u < 4611686018427387904):=⟨by have:=HI.out;have:=HM.out;have:=hru u;omega⟩
  have HUc:Aside0 (rollU raw (rollU raw u) < 4611686018427387904):=⟨by have:=HI.out;have:=HM.out;have:=hru u;have:=hru (rollU raw u);omega⟩
  obtain ⟨u3,hu3⟩:∃ x,x = rollU raw (rollU raw (rollU raw u)):=⟨_,rfl⟩
  have HU3:Aside0 (rollU raw (rollU raw (rollU raw u)) = u3 ∧ u3 ≤ 5 * i + 3):=⟨hu3.symm,by have:=HI.out;have:=hru u;have:=hru (rollU raw u);have:=hru (rollU raw (rollU raw u));omega⟩
  have HUd:Aside0 (u3 < 4611686018427387904):=⟨by have:=HU3.out;have:=HM.out;omega⟩
  have HUe:Aside0 (rollU raw u3 < 4611686018427387904):=⟨by have:=HU3.out;have:=HM.out;have:=hru u3;omega⟩
  have HU5:Aside0 (rollU raw (rollU raw u3) ≤ 5 * (i + 1)):=⟨by have:=HU3.out;have:=hru u3;have:=hru (rollU raw u3);omega⟩
  rw [← hu3] at HPX
  have hi12:i < 12:=by have:=HM.out;omega
  have wk:wrap64 ((i:Int) + 1) = (i:Int) + 1:=by unfold wrap64;omega
  have HWK:=Aside0.mk wk
  have HNI:=Aside0.mk hi12
  have w1k:IntKind.i64.wrap ((i:Int) * 2) = (i:Int) * 2:=wrap_k (by omega) (by omega)
  have w2k:IntKind.i64.wrap (1 + (i:Int) * 2) = 1 + (i:Int) * 2:=wrap_k (by omega) (by omega)
  have w3k:IntKind.i64.wrap (1 + (i:Int) * 2 + a) = 1 + (i:Int) * 2 + a:=wrap_k (by omega) (by omega)
  have w4k:IntKind.i64.wrap (1 + b) = 1 + b:=wrap_k (by omega) (by omega)
  clear hu3 hru HL hl hpx ha hb hc wk d1 a0 a1 b0 b1 hi12
  go_upto_region 7 with (first | (go_at_call 40;(with_reducible refine (HP.out.roll_calls HUa.out HRa.out).mono ?_);rintro e1 w2 ⟨rfl,hP,_,_⟩;have HP2:=Aside0.mk hP;clear hP) | (go_at_call 40;(with_reducible refine (HP2.out.roll_calls HUb.out HRb.out).mono ?_);rintro e2 w3 ⟨rfl,hP,_,_⟩;have HP3:=Aside0.mk hP;clear hP))
  clear w1k w2k w3k w4k
  obtain ⟨w4,hw4⟩:∃ W,W = w3.alloc (Obj.cells #[.int .i64 (1 + (i:Int) * 2 + a),.int .i64 site,.int .i64 0,.int .i64 (1 + b),.int .i64 0,.string ⟨#[]⟩,.string ⟨#[]⟩,.string ⟨#[]⟩] 128):=⟨_,rfl⟩
  obtain ⟨g,hgn⟩:∃ g,g = w3.heap.size:=⟨_,rfl⟩
  have HG4:Aside0 (w4.heap[g]? = some (.cells #[.int .i64 (1 + (i:Int) * 2 + a),.int .i64 site,.int .i64 0,.int .i64 (1 + b),.int .i64 0,.string ⟨#[]⟩,.string ⟨#[]⟩,.string ⟨#[]⟩] 128 (0,0))):=⟨by rw [hw4,hgn];exact blk_new w3 _⟩
  have HP4:Aside0 (PaS w gd raw (rollU raw (rollU raw u)) v5 out w4):=⟨by rw [hw4];exact HP3.out.below (below_alloc (Below.refl _ _) _)⟩
  have HGL:Aside0 (w.heap.size ≤ g):=⟨by rw [hgn];exact HP3.out.size⟩
  have HGN:Aside0 (v5.ownBlock ≠ some g):=⟨fun e=>by
   obtain ⟨inner,ho⟩:=Kd.R_own HP3.out.row
   have:=own_lt ho g e
   omega⟩
  rw [← hw4,← hgn]
  clear hw4 hgn HP2 HP3 HP HUa HUb HRa HRb
  by_cases d2:c = 0
  ·have hpx:=HPX.out
   rw [if_pos d2] at hpx
   obtain ⟨d,hd,hpx⟩:=Option.bind_eq_some_iff.1 hpx
   obtain ⟨e,he,hpx⟩:=Option.bind_eq_some_iff.1 hpx
   obtain rfl:=Option.some.inj hpx
   obtain ⟨hd0,hd1⟩:=roll_range (by omega) (by omega) hd
   obtain ⟨he0,he1⟩:=roll_range (by omega) (by omega) he
   have HRd:=Aside0.mk hd
   have HRe:=Aside0.mk he
   have HBd:=Aside0.mk (And.intro hd0 hd1)
   have HBe:=Aside0.mk (And.intro he0 he1)
   have t1:(c == 0) = true:=by simpa using d2
   clear hpx hd he d2
   go_upto_region 8 with (go_at_call 40;(with_reducible refine (HP4.out.roll_calls HUc.out HRc.out).mono ?_);rintro e3 w5 ⟨rfl,hP,hfr,_⟩;have HP5:=Aside0.mk hP;have HG5:=Aside0.mk ((hfr g _ 128 (by decide) HG4.out).trans HG4.out);clear hP hfr)
   rw [HU3.out.1] at HP5
   have HP:=Aside0.mk HP5.out.drew
   have HG:=Aside0.mk (blk_drew HG5.out)
   clear HP4 HG4 HP5 HG5 HRc HUc
   refine start_ (n:=16) (S:=fun w'=>True) (ds:=[15]) #[false,false,false,false,false,false,false,false,false,false,false,false,false,false,false,false] (by kernel_rfl) rfl rfl trivial (fun hHeld=>?_)
   refine pure_ (i:=1) (N:=some 33) (v:=?_) (a':=?_) (bm 2 16) rfl rfl (by kernel_rfl) (fun _ _ _ h=>h) (Or.inl ⟨by rfl,?_⟩) ?_ ?_
   rotate_left
   ·intro w'
    go_simp
    with_reducible rfl
   rotate_left
   ·simp only [Act.put,sA,sB,sC,i64_w,i32_w]
    rfl
   refine pure_ (i:=6) (N:=some 38) (v:=?_) (a':=?_) (bm 66 16) rfl rfl (by kernel_rfl) (fun _ _ _ h=>h) (Or.inl ⟨by rfl,?_⟩) ?_ ?_
   rotate_left
   ·intro w'
    go_simp
    with_reducible rfl
   rotate_left
   ·simp only [Act.put,sA,sB,sC,i64_w,i32_w]
    rfl
   refine pure_ (i:=10) (N:=some 42) (v:=?_) (a':=?_) (bm 1090 16) rfl rfl (by kernel_rfl) (fun _ _ _ h=>h) (Or.inl ⟨by rfl,?_⟩) ?_ ?_
   rotate_left
   ·intro w'
    go_simp
    with_reducible rfl
   rotate_left
   ·simp only [Act.put,sA,sB,sC,i64_w,i32_w]
    rfl
   refine join_ (σ:=Addr × Nat × Addr × Nat) 2 (bm 16383 16) (fun s_=>[(32,.slice (some s_.1) 2 s_.2.1),(34,.int .i64 d),(36,.string (xyS d)),(37,.slice (some s_.2.2.1) 3 s_.2.2.2),(39,.int .i64 e),(41,.string (noS e)),(35,.pointer (some (s_.1.add d.toNat))),(40,.pointer (some (s_.2.2.1.add e.toNat))),(43,.pointer (some ⟨g,6,none⟩))]) (fun s_ w'=>(PaS w gd raw (rollU raw (rollU raw u3)) v5 out w') ∧ (w'.heap[g]? = some (.cells #[.int .i64 (1 + (i:Int) * 2 + a),.int .i64 site,.int .i64 1,.int .i64 (1 + b),.int .i64 0,.string ⟨#[]⟩,.string (xyS d),.string ⟨#[]⟩] 128 (0,0)))) ?_ ?_
   rotate_left
   ·intro hJ0_2_4_5_7_9_11_13
    refine join_ (σ:=Addr × Nat × Addr × Nat) 3 (bm 8191 16) (fun s_=>[(32,.slice (some s_.1) 2 s_.2.1),(34,.int .i64 d),(36,.string (xyS d)),(37,.slice (some s_.2.2.1) 3 s_.2.2.2),(39,.int .i64 e),(41,.string (noS e)),(35,.pointer (some (s_.1.add d.toNat))),(40,.pointer (some (s_.2.2.1.add e.toNat))),(43,.pointer (some ⟨g,6,none⟩))]) (fun s_ w'=>(PaS w gd raw (rollU raw (rollU raw u3)) v5 out w') ∧ (w'.heap[g]? = some (.cells #[.int .i64 (1 + (i:Int) * 2 + a),.int .i64 site,.int .i64 1,.int .i64 (1 + b),.int .i64 0,.string ⟨#[]⟩,.string ⟨#[]⟩,.string ⟨#[]⟩] 128 (0,0)))) ?_ ?_
    rotate_left
    ·intro hJ0_2_4_5_7_9_11
     refine join_ (σ:=Addr × Nat × Addr × Nat) 3 (bm 15871 16) (fun s_=>[(32,.slice (some s_.1) 2 s_.2.1),(34,.int .i64 d),(36,.string (xyS d)),(37,.slice (some s_.2.2.1) 3 s_.2.2.2),(39,.int .i64 e),(35,.pointer (some (s_.1.add d.toNat))),(40,.pointer (some (s_.2.2.1.add e.toNat))),(43,.pointer (some ⟨g,6,none⟩))]) (fun s_ w'=>(PaS w gd raw (rollU raw (rollU raw u3)) v5 out w') ∧ (w'.heap[g]? = some (.cells #[.int .i64 (1 + (i:Int) * 2 + a),.int .i64 site,.int .i64 1,.int .i64 (1 + b),.int .i64 0,.string ⟨#[]⟩,.string (xyS d),.string ⟨#[]⟩] 128 (0,0))) ∧ (Kd.R Kd.string 9 w' w.heap.size (fun _=>True) (.slice (some s_.2.2.1) 3 s_.2.2.2) ([⟨#[]⟩,⟨#[49]⟩,⟨#[50]⟩]:List ByteArray))) ?_ ?_
     rotate_left
     ·intro hJ0_2_4_5_7_11_13
      refine join_ (σ:=Addr × Nat × Addr × Nat) 5 (bm 2047 16) (fun s_=>[(32,.slice (some s_.1) 2 s_.2.1),(34,.int .i64 d),(36,.string (xyS d)),(37,.slice (some s_.2.2.1) 3 s_.2.2.2),(39,.int .i64 e),(41,.string (noS e)),(35,.pointer (some (s_.1.add d.toNat))),(40,.pointer (some (s_.2.2.1.add e.toNat)))]) (fun s_ w'=>(PaS w gd raw (rollU raw (rollU raw u3)) v5 out w') ∧ (w'.heap[g]? = some (.cells #[.int .i64 (1 + (i:Int) * 2 + a),.int .i64 site,.int .i64 0,.int .i64 (1 + b),.int .i64 0,.string ⟨#[]⟩,.string ⟨#[]⟩,.string ⟨#[]⟩] 128 (0,0)))) ?_ ?_
      rotate_left
      ·intro hJ0_2_4_5_7_9
       refine join_ (σ:=Addr × Nat × Addr × Nat) 4 (bm 7679 16) (fun s_=>[(32,.slice (some s_.1) 2 s_.2.1),(34,.int .i64 d),(36,.string (xyS d)),(37,.slice (some s_.2.2.1) 3 s_.2.2.2),(39,.int .i64 e),(35,.pointer (some (s_.1.add d.toNat))),(40,.pointer (some (s_.2.2.1.add e.toNat))),(43,.pointer (some ⟨g,6,none⟩))]) (fun s_ w'=>(PaS w gd raw (rollU raw (rollU raw u3)) v5 out w') ∧ (w'.heap[g]? = some (.cells #[.int .i64 (1 + (i:Int) * 2 + a),.int .i64 site,.int .i64 1,.int .i64 (1 + b),.int .i64 0,.string ⟨#[]⟩,.string ⟨#[]⟩,.string ⟨#[]⟩] 128 (0,0))) ∧ (Kd.R Kd.string 9 w' w.heap.size (fun _=>True) (.slice (some s_.2.2.1) 3 s_.2.2.2) ([⟨#[]⟩,⟨#[49]⟩,⟨#[50]⟩]:List ByteArray))) ?_ ?_
       rotate_left
       ·intro hJ0_2_4_5_7_11
        refine join_ (σ:=Addr × Nat) 5 (bm 15583 16) (fun s_=>[(32,.slice (some s_.1) 2 s_.2),(34,.int .i64 d),(36,.string (xyS d)),(39,.int .i64 e),(35,.pointer (some (s_.1.add d.toNat))),(43,.pointer (some ⟨g,6,none⟩))]) (fun s_ w'=>(PaS w gd raw (rollU raw (rollU raw u3)) v5 out w') ∧ (w'.heap[g]? = some (.cells #[.int .i64 (1 + (i:Int) * 2 + a),.int .i64 site,.int .i64 1,.int .i64 (1 + b),.int .i64 0,.string ⟨#[]⟩,.string (xyS d),.string ⟨#[]⟩] 128 (0,0)))) ?_ ?_
        rotate_left
        ·intro hJ0_2_4_7_11_13
         refine join_ (σ:=Addr × Nat × Addr × Nat) 5 (bm 4079 16) (fun s_=>[(32,.slice (some s_.1) 2 s_.2.1),(34,.int .i64 d),(37,.slice (some s_.2.2.1) 3 s_.2.2.2),(39,.int .i64 e),(41,.string (noS e)),(35,.pointer (some (s_.1.add d.toNat))),(40,.pointer (some (s_.2.2.1.add e.toNat)))]) (fun s_ w'=>(PaS w gd raw (rollU raw (rollU raw u3)) v5 out w') ∧ (w'.heap[g]? = some (.cells #[.int .i64 (1 + (i:Int) * 2 + a),.int .i64 site,.int .i64 1,.int .i64 (1 + b),.int .i64 0,.string ⟨#[]⟩,.string ⟨#[]⟩,.string ⟨#[]⟩] 128 (0,0))) ∧ (Kd.R Kd.string 9 w' w.heap.size (fun _=>True) (.slice (some s_.1) 2 s_.2.1) ([⟨#[120]⟩,⟨#[121]⟩]:List ByteArray))) ?_ ?_
         rotate_left
         ·intro hJ0_2_5_7_9_11
          refine join_ (σ:=Addr × Nat × Addr × Nat) 6 (bm 1535 16) (fun s_=>[(32,.slice (some s_.1) 2 s_.2.1),(34,.int .i64 d),(36,.string (xyS d)),(37,.slice (some s_.2.2.1) 3 s_.2.2.2),(39,.int .i64 e),(35,.pointer (some (s_.1.add d.toNat))),(40,.pointer (some (s_.2.2.1.add e.toNat)))]) (fun s_ w'=>(PaS w gd raw (rollU raw (rollU raw u3)) v5 out w') ∧ (w'.heap[g]? = some (.cells #[.int .i64 (1 + (i:Int) * 2 + a),.int .i64 site,.int .i64 0,.int .i64 (1 + b),.int .i64 0,.string ⟨#[]⟩,.string ⟨#[]⟩,.string ⟨#[]⟩] 128 (0,0))) ∧ (Kd.R Kd.string 9 w' w.heap.size (fun _=>True) (.slice (some s_.2.2.1) 3 s_.2.2.2) ([⟨#[]⟩,⟨#[49]⟩,⟨#[50]⟩]:List ByteArray))) ?_ ?_
          rotate_left
          ·intro hJ0_2_4_5_7
           refine join_ (σ:=Addr × Nat) 6 (bm 7391 16) (fun s_=>[(32,.slice (some s_.1) 2 s_.2),(34,.int .i64 d),(36,.string (xyS d)),(39,.int .i64 e),(35,.pointer (some (s_.1.add d.toNat))),(43,.pointer (some ⟨g,6,none⟩))]) (fun s_ w'=>(PaS w gd raw (rollU raw (rollU raw u3)) v5 out w') ∧ (w'.heap[g]? = some (.cells #[.int .i64 (1 + (i:Int) * 2 + a),.int .i64 site,.int .i64 1,.int .i64 (1 + b),.int .i64 0,.string ⟨#[]⟩,.string ⟨#[]⟩,.string ⟨#[]⟩] 128 (0,0)))) ?_ ?_
           rotate_left
           ·intro hJ0_2_4_7_11
            refine join_ (σ:=Addr × Nat × Addr × Nat) 6 (bm 2031 16) (fun s_=>[(32,.slice (some s_.1) 2 s_.2.1),(34,.int .i64 d),(37,.slice (some s_.2.2.1) 3 s_.2.2.2),(39,.int .i64 e),(41,.string (noS e)),(35,.pointer (some (s_.1.add d.toNat))),(40,.pointer (some (s_.2.2.1.add e.toNat)))]) (fun s_ w'=>(PaS w gd raw (rollU raw (rollU raw u3)) v5 out w') ∧ (w'.heap[g]? = some (.cells #[.int .i64 (1 + (i:Int) * 2 + a),.int .i64 site,.int .i64 0,.int .i64 (1 + b),.int .i64 0,.string ⟨#[]⟩,.string ⟨#[]⟩,.string ⟨#[]⟩] 128 (0,0))) ∧ (Kd.R Kd.string 9 w' w.heap.size (fun _=>True) (.slice (some s_.1) 2 s_.2.1) ([⟨#[120]⟩,⟨#[121]⟩]:List ByteArray))) ?_ ?_
            rotate_left
            ·intro hJ0_2_5_7_9
             refine join_ (σ:=Addr × Nat × Addr × Nat) 6 (bm 3567 16) (fun s_=>[(32,.slice (some s_.1) 2 s_.2.1),(34,.int .i64 d),(37,.slice (some s_.2.2.1) 3 s_.2.2.2),(39,.int .i64 e),(35,.pointer (some (s_.1.add d.toNat))),(40,.pointer (some (s_.2.2.1.add e.toNat)))]) (fun s_ w'=>(PaS w gd raw (rollU raw (rollU raw u3)) v5 out w') ∧ (w'.heap[g]? = some (.cells #[.int .i64 (1 + (i:Int) * 2 + a),.int .i64 site,.int .i64 1,.int .i64 (1 + b),.int .i64 0,.string ⟨#[]⟩,.string ⟨#[]⟩,.string ⟨#[]⟩] 128 (0,0))) ∧ (Kd.R Kd.string 9 w' w.heap.size (fun _=>True) (.slice (some s_.1) 2 s_.2.1) ([⟨#[120]⟩,⟨#[121]⟩]:List ByteArray)) ∧ (Kd.R Kd.string 9 w' w.heap.size (fun _=>True) (.slice (some s_.2.2.1) 3 s_.2.2.2) ([⟨#[]⟩,⟨#[49]⟩,⟨#[50]⟩]:List ByteArray))) ?_ ?_
             rotate_left
             ·intro hJ0_2_5_7_11
              refine join_ (σ:=Addr × Nat) 7 (bm 4070 16) (fun s_=>[(34,.int .i64 d),(37,.slice (some s_.1) 3 s_.2),(39,.int .i64 e),(41,.string (noS e)),(40,.pointer (some (s_.1.add e.toNat)))]) (fun s_ w'=>(PaS w gd raw (rollU raw (rollU raw u3)) v5 out w') ∧ (w'.heap[g]? = some (.cells #[.int .i64 (1 + (i:Int) * 2 + a),.int .i64 site,.int .i64 1,.int .i64 (1 + b),.int .i64 0,.string ⟨#[]⟩,.string ⟨#[]⟩,.string ⟨#[]⟩] 128 (0,0)))) ?_ ?_
              rotate_left
              ·intro hJ2_5_7_9_11
               refine join_ (σ:=Addr × Nat × Addr × Nat) 8 (bm 1151 16) (fun s_=>[(32,.slice (some s_.1) 2 s_.2.1),(34,.int .i64 d),(36,.string (xyS d)),(37,.slice (some s_.2.2.1) 3 s_.2.2.2),(35,.pointer (some (s_.1.add d.toNat)))]) (fun s_ w'=>(PaS w gd raw (rollU raw u3) v5 out w') ∧ (w'.heap[g]? = some (.cells #[.int .i64 (1 + (i:Int) * 2 + a),.int .i64 site,.int .i64 0,.int .i64 (1 + b),.int .i64 0,.string ⟨#[]⟩,.string ⟨#[]⟩,.string ⟨#[]⟩] 128 (0,0))) ∧ (Kd.R Kd.string 9 w' w.heap.size (fun _=>True) (.slice (some s_.2.2.1) 3 s_.2.2.2) ([⟨#[]⟩,⟨#[49]⟩,⟨#[50]⟩]:List ByteArray))) ?_ ?_
               rotate_left
               ·intro hJ0_2_4_5
                refine join_ (σ:=Addr × Nat) 8 (bm 1247 16) (fun s_=>[(32,.slice (some s_.1) 2 s_.2),(34,.int .i64 d),(36,.string (xyS d)),(39,.int .i64 e),(35,.pointer (some (s_.1.add d.toNat)))]) (fun s_ w'=>(PaS w gd raw (rollU raw (rollU raw u3)) v5 out w') ∧ (w'.heap[g]? = some (.cells #[.int .i64 (1 + (i:Int) * 2 + a),.int .i64 site,.int .i64 0,.int .i64 (1 + b),.int .i64 0,.string ⟨#[]⟩,.string ⟨#[]⟩,.string ⟨#[]⟩] 128 (0,0)))) ?_ ?_
                rotate_left
                ·intro hJ0_2_4_7
                 refine join_ (σ:=Addr × Nat × Addr × Nat) 7 (bm 1519 16) (fun s_=>[(32,.slice (some s_.1) 2 s_.2.1),(34,.int .i64 d),(37,.slice (some s_.2.2.1) 3 s_.2.2.2),(39,.int .i64 e),(35,.pointer (some (s_.1.add d.toNat))),(40,.pointer (some (s_.2.2.1.add e.toNat)))]) (fun s_ w'=>(PaS w gd raw (rollU raw (rollU raw u3)) v5 out w') ∧ (w'.heap[g]? = some (.cells #[.int .i64 (1 + (i:Int) * 2 + a),.int .i64 site,.int .i64 0,.int .i64 (1 + b),.int .i64 0,.string ⟨#[]⟩,.string ⟨#[]⟩,.string ⟨#[]⟩] 128 (0,0))) ∧ (Kd.R Kd.string 9 w' w.heap.size (fun _=>True) (.slice (some s_.1) 2 s_.2.1) ([⟨#[120]⟩,⟨#[121]⟩]:List ByteArray)) ∧ (Kd.R Kd.string 9 w' w.heap.size (fun _=>True) (.slice (some s_.2.2.1) 3 s_.2.2.2) ([⟨#[]⟩,⟨#[49]⟩,⟨#[50]⟩]:List ByteArray))) ?_ ?_
                 rotate_left
                 ·intro hJ0_2_5_7
                  refine join_ (σ:=Addr × Nat) 8 (bm 3279 16) (fun s_=>[(32,.slice (some s_.1) 2 s_.2),(34,.int .i64 d),(39,.int .i64 e),(35,.pointer (some (s_.1.add d.toNat)))]) (fun s_ w'=>(PaS w gd raw (rollU raw (rollU raw u3)) v5 out w') ∧ (w'.heap[g]? = some (.cells #[.int .i64 (1 + (i:Int) * 2 + a),.int .i64 site,.int .i64 1,.int .i64 (1 + b),.int .i64 0,.string ⟨#[]⟩,.string ⟨#[]⟩,.string ⟨#[]⟩] 128 (0,0))) ∧ (Kd.R Kd.string 9 w' w.heap.size (fun _=>True) (.slice (some s_.1) 2 s_.2) ([⟨#[120]⟩,⟨#[121]⟩]:List ByteArray))) ?_ ?_
                  rotate_left
                  ·intro hJ0_2_7_11
                   refine join_ (σ:=Addr × Nat) 8 (bm 2022 16) (fun s_=>[(34,.int .i64 d),(37,.slice (some s_.1) 3 s_.2),(39,.int .i64 e),(41,.string (noS e)),(40,.pointer (some (s_.1.add e.toNat)))]) (fun s_ w'=>(PaS w gd raw (rollU raw (rollU raw u3)) v5 out w') ∧ (w'.heap[g]? = some (.cells #[.int .i64 (1 + (i:Int) * 2 + a),.int .i64 site,.int .i64 0,.int .i64 (1 + b),.int .i64 0,.string ⟨#[]⟩,.string ⟨#[]⟩,.string ⟨#[]⟩] 128 (0,0)))) ?_ ?_
                   rotate_left
                   ·intro hJ2_5_7_9
                    refine join_ (σ:=Addr × Nat) 8 (bm 3558 16) (fun s_=>[(34,.int .i64 d),(37,.slice (some s_.1) 3 s_.2),(39,.int .i64 e),(40,.pointer (some (s_.1.add e.toNat)))]) (fun s_ w'=>(PaS w gd raw (rollU raw (rollU raw u3)) v5 out w') ∧ (w'.heap[g]? = some (.cells #[.int .i64 (1 + (i:Int) * 2 + a),.int .i64 site,.int .i64 1,.int .i64 (1 + b),.int .i64 0,.string ⟨#[]⟩,.string ⟨#[]⟩,.string ⟨#[]⟩] 128 (0,0))) ∧ (Kd.R Kd.string 9 w' w.heap.size (fun _=>True) (.slice (some s_.1) 3 s_.2) ([⟨#[]⟩,⟨#[49]⟩,⟨#[50]⟩]:List ByteArray))) ?_ ?_
                    rotate_left
                    ·intro hJ2_5_7_11
                     refine join_ (σ:=Addr × Nat) 9 (bm 1119 16) (fun s_=>[(32,.slice (some s_.1) 2 s_.2),(34,.int .i64 d),(36,.string (xyS d)),(35,.pointer (some (s_.1.add d.toNat)))]) (fun s_ w'=>(PaS w gd raw (rollU raw u3) v5 out w') ∧ (w'.heap[g]? = some (.cells #[.int .i64 (1 + (i:Int) * 2 + a),.int .i64 site,.int .i64 0,.int .i64 (1 + b),.int .i64 0,.string ⟨#[]⟩,.string ⟨#[]⟩,.string ⟨#[]⟩] 128 (0,0)))) ?_ ?_
                     rotate_left
                     ·intro hJ0_2_4
                      refine join_ (σ:=Addr × Nat × Addr × Nat) 9 (bm 1135 16) (fun s_=>[(32,.slice (some s_.1) 2 s_.2.1),(34,.int .i64 d),(37,.slice (some s_.2.2.1) 3 s_.2.2.2),(35,.pointer (some (s_.1.add d.toNat)))]) (fun s_ w'=>(PaS w gd raw (rollU raw u3) v5 out w') ∧ (w'.heap[g]? = some (.cells #[.int .i64 (1 + (i:Int) * 2 + a),.int .i64 site,.int .i64 0,.int .i64 (1 + b),.int .i64 0,.string ⟨#[]⟩,.string ⟨#[]⟩,.string ⟨#[]⟩] 128 (0,0))) ∧ (Kd.R Kd.string 9 w' w.heap.size (fun _=>True) (.slice (some s_.1) 2 s_.2.1) ([⟨#[120]⟩,⟨#[121]⟩]:List ByteArray)) ∧ (Kd.R Kd.string 9 w' w.heap.size (fun _=>True) (.slice (some s_.2.2.1) 3 s_.2.2.2) ([⟨#[]⟩,⟨#[49]⟩,⟨#[50]⟩]:List ByteArray))) ?_ ?_
                      rotate_left
                      ·intro hJ0_2_5
                       refine join_ (σ:=Addr × Nat) 9 (bm 1231 16) (fun s_=>[(32,.slice (some s_.1) 2 s_.2),(34,.int .i64 d),(39,.int .i64 e),(35,.pointer (some (s_.1.add d.toNat)))]) (fun s_ w'=>(PaS w gd raw (rollU raw (rollU raw u3)) v5 out w') ∧ (w'.heap[g]? = some (.cells #[.int .i64 (1 + (i:Int) * 2 + a),.int .i64 site,.int .i64 0,.int .i64 (1 + b),.int .i64 0,.string ⟨#[]⟩,.string ⟨#[]⟩,.string ⟨#[]⟩] 128 (0,0))) ∧ (Kd.R Kd.string 9 w' w.heap.size (fun _=>True) (.slice (some s_.1) 2 s_.2) ([⟨#[120]⟩,⟨#[121]⟩]:List ByteArray))) ?_ ?_
                       rotate_left
                       ·intro hJ0_2_7
                        refine join_ (σ:=Addr × Nat) 9 (bm 1510 16) (fun s_=>[(34,.int .i64 d),(37,.slice (some s_.1) 3 s_.2),(39,.int .i64 e),(40,.pointer (some (s_.1.add e.toNat)))]) (fun s_ w'=>(PaS w gd raw (rollU raw (rollU raw u3)) v5 out w') ∧ (w'.heap[g]? = some (.cells #[.int .i64 (1 + (i:Int) * 2 + a),.int .i64 site,.int .i64 0,.int .i64 (1 + b),.int .i64 0,.string ⟨#[]⟩,.string ⟨#[]⟩,.string ⟨#[]⟩] 128 (0,0))) ∧ (Kd.R Kd.string 9 w' w.heap.size (fun _=>True) (.slice (some s_.1) 3 s_.2) ([⟨#[]⟩,⟨#[49]⟩,⟨#[50]⟩]:List ByteArray))) ?_ ?_
                        rotate_left
                        ·intro hJ2_5_7
                         refine join_ (σ:=Unit) 10 (bm 3270 16) (fun s_=>[(34,.int .i64 d),(39,.int .i64 e)]) (fun s_ w'=>(PaS w gd raw (rollU raw (rollU raw u3)) v5 out w') ∧ (w'.heap[g]? = some (.cells #[.int .i64 (1 + (i:Int) * 2 + a),.int .i64 site,.int .i64 1,.int .i64 (1 + b),.int .i64 0,.string ⟨#[]⟩,.string ⟨#[]⟩,.string ⟨#[]⟩] 128 (0,0)))) ?_ ?_
                         rotate_left
                         ·intro hJ2_7_11
                          refine join_ (σ:=Addr × Nat) 10 (bm 1103 16) (fun s_=>[(32,.slice (some s_.1) 2 s_.2),(34,.int .i64 d),(35,.pointer (some (s_.1.add d.toNat)))]) (fun s_ w'=>(PaS w gd raw (rollU raw u3) v5 out w') ∧ (w'.heap[g]? = some (.cells #[.int .i64 (1 + (i:Int) * 2 + a),.int .i64 site,.int .i64 0,.int .i64 (1 + b),.int .i64 0,.string ⟨#[]⟩,.string ⟨#[]⟩,.string ⟨#[]⟩] 128 (0,0))) ∧ (Kd.R Kd.string 9 w' w.heap.size (fun _=>True) (.slice (some s_.1) 2 s_.2) ([⟨#[120]⟩,⟨#[121]⟩]:List ByteArray))) ?_ ?_
                          rotate_left
                          ·intro hJ0_2
                           refine join_ (σ:=Addr × Nat × Addr × Nat) 11 (bm 1123 16) (fun s_=>[(32,.slice (some s_.1) 2 s_.2.1),(37,.slice (some s_.2.2.1) 3 s_.2.2.2)]) (fun s_ w'=>(PaS w gd raw u3 v5 out w') ∧ (w'.heap[g]? = some (.cells #[.int .i64 (1 + (i:Int) * 2 + a),.int .i64 site,.int .i64 0,.int .i64 (1 + b),.int .i64 0,.string ⟨#[]⟩,.string ⟨#[]⟩,.string ⟨#[]⟩] 128 (0,0))) ∧ (Kd.R Kd.string 9 w' w.heap.size (fun _=>True) (.slice (some s_.1) 2 s_.2.1) ([⟨#[120]⟩,⟨#[121]⟩]:List ByteArray)) ∧ (Kd.R Kd.string 9 w' w.heap.size (fun _=>True) (.slice (some s_.2.2.1) 3 s_.2.2.2) ([⟨#[]⟩,⟨#[49]⟩,⟨#[50]⟩]:List ByteArray))) ?_ ?_
                           rotate_left
                           ·intro hJ0_5
                            refine join_ (σ:=Addr × Nat) 11 (bm 1126 16) (fun s_=>[(34,.int .i64 d),(37,.slice (some s_.1) 3 s_.2)]) (fun s_ w'=>(PaS w gd raw (rollU raw u3) v5 out w') ∧ (w'.heap[g]? = some (.cells #[.int .i64 (1 + (i:Int) * 2 + a),.int .i64 site,.int .i64 0,.int .i64 (1 + b),.int .i64 0,.string ⟨#[]⟩,.string ⟨#[]⟩,.string ⟨#[]⟩] 128 (0,0))) ∧ (Kd.R Kd.string 9 w' w.heap.size (fun _=>True) (.slice (some s_.1) 3 s_.2) ([⟨#[]⟩,⟨#[49]⟩,⟨#[50]⟩]:List ByteArray))) ?_ ?_
                            rotate_left
                            ·intro hJ2_5
                             refine join_ (σ:=Unit) 11 (bm 1222 16) (fun s_=>[(34,.int .i64 d),(39,.int .i64 e)]) (fun s_ w'=>(PaS w gd raw (rollU raw (rollU raw u3)) v5 out w') ∧ (w'.heap[g]? = some (.cells #[.int .i64 (1 + (i:Int) * 2 + a),.int .i64 site,.int .i64 0,.int .i64 (1 + b),.int .i64 0,.string ⟨#[]⟩,.string ⟨#[]⟩,.string ⟨#[]⟩] 128 (0,0)))) ?_ ?_
                             rotate_left
                             ·intro hJ2_7
                              refine join_ (σ:=Addr × Nat) 12 (bm 1091 16) (fun s_=>[(32,.slice (some s_.1) 2 s_.2)]) (fun s_ w'=>(PaS w gd raw u3 v5 out w') ∧ (w'.heap[g]? = some (.cells #[.int .i64 (1 + (i:Int) * 2 + a),.int .i64 site,.int .i64 0,.int .i64 (1 + b),.int .i64 0,.string ⟨#[]⟩,.string ⟨#[]⟩,.string ⟨#[]⟩] 128 (0,0))) ∧ (Kd.R Kd.string 9 w' w.heap.size (fun _=>True) (.slice (some s_.1) 2 s_.2) ([⟨#[120]⟩,⟨#[121]⟩]:List ByteArray))) ?_ ?_
                              rotate_left
                              ·intro hJ0
                               refine join_ (σ:=Unit) 12 (bm 1094 16) (fun s_=>[(34,.int .i64 d)]) (fun s_ w'=>(PaS w gd raw (rollU raw u3) v5 out w') ∧ (w'.heap[g]? = some (.cells #[.int .i64 (1 + (i:Int) * 2 + a),.int .i64 site,.int .i64 0,.int .i64 (1 + b),.int .i64 0,.string ⟨#[]⟩,.string ⟨#[]⟩,.string ⟨#[]⟩] 128 (0,0)))) ?_ ?_
                               rotate_left
                               ·intro hJ2
                                refine join_ (σ:=Addr × Nat) 12 (bm 1122 16) (fun s_=>[(37,.slice (some s_.1) 3 s_.2)]) (fun s_ w'=>(PaS w gd raw u3 v5 out w') ∧ (w'.heap[g]? = some (.cells #[.int .i64 (1 + (i:Int) * 2 + a),.int .i64 site,.int .i64 0,.int .i64 (1 + b),.int .i64 0,.string ⟨#[]⟩,.string ⟨#[]⟩,.string ⟨#[]⟩] 128 (0,0))) ∧ (Kd.R Kd.string 9 w' w.heap.size (fun _=>True) (.slice (some s_.1) 3 s_.2) ([⟨#[]⟩,⟨#[49]⟩,⟨#[50]⟩]:List ByteArray))) ?_ ?_
                                rotate_left
                                ·intro hJ5
                                 refine three_ (i:=0) (j:=2) (k:=5) (Ni:=some 32) (Nj:=some 34) (Nk:=some 37) (bm 1091 16) (bm 1094 16) (bm 1122 16) rfl rfl rfl rfl rfl rfl (by kernel_rfl) (by decide) (by decide) (by decide) (fun K hK=>?_) (fun K hK=>?_) (fun K hK=>?_)
                                 ·skip
                                  refine Kd.R_lit_step Kd.string (w0:=w) w.heap.size 9 (by rfl) (N:=32) rfl (xs:=([⟨#[120]⟩,⟨#[121]⟩]:List ByteArray)) (inner:=[.string ⟨#[120]⟩,.string ⟨#[121]⟩]) (ok:=fun _=>True) (okp:=fun _=>True) ?hr ?hp (fun _ hk=>hk) trivial HP.out.bel HP.out.size (by simp) ?_
                                  case hr=>(go_simp;done)
                                  case hp=>exact Reps.one rfl (Reps.one rfl (Reps.none _ _))
                                  intro v_ w_ hR hB hg hn
                                  obtain ⟨adA_,cA_,e_⟩:=strR_ad hR (by decide)
                                  subst e_
                                  have HA:Aside0 (Kd.R Kd.string 9 w_ w.heap.size (fun _=>True) (.slice (some adA_) 2 cA_) ([⟨#[120]⟩,⟨#[121]⟩]:List ByteArray)):=⟨hR⟩
                                  have hbl:=grown_below hg
                                  have HG:=Aside0.mk ((hbl.block g (blk_lt HG.out)).trans HG.out)
                                  have HP:=Aside0.mk (HP.out.below hbl)
                                  clear hR hB hg hn hbl
                                  refine hK.out _ _ trivial (fun hHeld=>?_)
                                  clear hK K
                                  refine norm_ (a':=?_) ?_ ?_
                                  rotate_left
                                  ·show Act.put _ (some 32) _ = _
                                   simp only [Act.put,sA,sB,sC,i64_w,i32_w]
                                   rfl
                                  exact norm_ (by (simp only [putAll,Act.put,sA,sB,sC];rfl)) (hJ0 (adA_,cA_) _ ⟨HP.out,HG.out,HA.out⟩)
                                 ·skip
                                  refine goes_ Try.func40 (by kernel_rfl) rfl #[.pointer (some ⟨gd,0,none⟩),.int .i64 2] (by rfl) rfl rfl (by simp only [List.map_toArray,List.map_cons,List.map_nil];rfl) ?_
                                  with_reducible refine (HP.out.roll_calls HUd.out HRd.out).mono ?_
                                  rintro e w_ ⟨rfl,hP,hfr,hsz⟩
                                  refine ⟨_,rfl,?_⟩
                                  have HG:=Aside0.mk ((hfr g _ 128 (by decide) HG.out).trans HG.out)
                                  have HP:=Aside0.mk hP
                                  clear hP hfr hsz
                                  refine hK.out _ _ trivial (fun hHeld=>?_)
                                  clear hK K
                                  refine norm_ (a':=?_) ?_ ?_
                                  rotate_left
                                  ·show Act.put _ (some 34) _ = _
                                   simp only [Act.put,sA,sB,sC,i64_w,i32_w]
                                   rfl
                                  exact norm_ (by (simp only [putAll,Act.put,sA,sB,sC];done)) (hJ2 () _ ⟨HP.out,HG.out⟩)
                                 ·skip
                                  refine Kd.R_lit_step Kd.string (w0:=w) w.heap.size 9 (by rfl) (N:=37) rfl (xs:=([⟨#[]⟩,⟨#[49]⟩,⟨#[50]⟩]:List ByteArray)) (inner:=[.string ⟨#[]⟩,.string ⟨#[49]⟩,.string ⟨#[50]⟩]) (ok:=fun _=>True) (okp:=fun _=>True) ?hr ?hp (fun _ hk=>hk) trivial HP.out.bel HP.out.size (by simp) ?_
                                  case hr=>(go_simp;done)
                                  case hp=>exact Reps.one rfl (Reps.one rfl (Reps.one rfl (Reps.none _ _)))
                                  intro v_ w_ hR hB hg hn
                                  obtain ⟨adB_,cB_,e_⟩:=strR_ad hR (by decide)
                                  subst e_
                                  have HB:Aside0 (Kd.R Kd.string 9 w_ w.heap.size (fun _=>True) (.slice (some adB_) 3 cB_) ([⟨#[]⟩,⟨#[49]⟩,⟨#[50]⟩]:List ByteArray)):=⟨hR⟩
                                  have hbl:=grown_below hg
                                  have HG:=Aside0.mk ((hbl.block g (blk_lt HG.out)).trans HG.out)
                                  have HP:=Aside0.mk (HP.out.below hbl)
                                  clear hR hB hg hn hbl
                                  refine hK.out _ _ trivial (fun hHeld=>?_)
                                  clear hK K
                                  refine norm_ (a':=?_) ?_ ?_
                                  rotate_left
                                  ·show Act.put _ (some 37) _ = _
                                   simp only [Act.put,sA,sB,sC,i64_w,i32_w]
                                   rfl
                                  exact norm_ (by (simp only [putAll,Act.put,sA,sB,sC];rfl)) (hJ5 (adB_,cB_) _ ⟨HP.out,HG.out,HB.out⟩)
                                ·skip
                                 rintro ⟨adB_,cB_⟩ w5_ ⟨hP_,hG_,hHB_⟩
                                 have HP:Aside0 (PaS w gd raw u3 v5 out w5_):=⟨hP_⟩
                                 have HG:Aside0 (w5_.heap[g]? = some (.cells #[.int .i64 (1 + (i:Int) * 2 + a),.int .i64 site,.int .i64 0,.int .i64 (1 + b),.int .i64 0,.string ⟨#[]⟩,.string ⟨#[]⟩,.string ⟨#[]⟩] 128 (0,0))):=⟨hG_⟩
                                 have HB:Aside0 (Kd.R Kd.string 9 w5_ w.heap.size (fun _=>True) (.slice (some adB_) 3 cB_) ([⟨#[]⟩,⟨#[49]⟩,⟨#[50]⟩]:List ByteArray)):=⟨hHB_⟩
                                 clear hP_ hG_ hHB_
                                 have hHeld:True:=trivial
                                 refine norm_ (a':=?_) ?_ ?_
                                 rotate_left
                                 ·simp only [putAll,Act.put,sA,sB,sC]
                                  rfl
                                 refine two_ (i:=0) (j:=2) (Ni:=some 32) (Nj:=some 34) (bm 1123 16) (bm 1126 16) rfl rfl rfl rfl (by kernel_rfl) (by decide) (by decide) (fun K hK=>?_) (fun K hK=>?_)
                                 ·skip
                                  refine Kd.R_lit_step Kd.string (w0:=w) w.heap.size 9 (by rfl) (N:=32) rfl (xs:=([⟨#[120]⟩,⟨#[121]⟩]:List ByteArray)) (inner:=[.string ⟨#[120]⟩,.string ⟨#[121]⟩]) (ok:=fun _=>True) (okp:=fun _=>True) ?hr ?hp (fun _ hk=>hk) trivial HP.out.bel HP.out.size (by simp) ?_
                                  case hr=>(go_simp;done)
                                  case hp=>exact Reps.one rfl (Reps.one rfl (Reps.none _ _))
                                  intro v_ w_ hR hB hg hn
                                  obtain ⟨adA_,cA_,e_⟩:=strR_ad hR (by decide)
                                  subst e_
                                  have HA:Aside0 (Kd.R Kd.string 9 w_ w.heap.size (fun _=>True) (.slice (some adA_) 2 cA_) ([⟨#[120]⟩,⟨#[121]⟩]:List ByteArray)):=⟨hR⟩
                                  have hbl:=grown_below hg
                                  have HG:=Aside0.mk ((hbl.block g (blk_lt HG.out)).trans HG.out)
                                  have HP:=Aside0.mk (HP.out.below hbl)
                                  have HB:=Aside0.mk (Kd.R_below HB.out hbl)
                                  clear hR hB hg hn hbl
                                  refine hK.out _ _ trivial (fun hHeld=>?_)
                                  clear hK K
                                  refine norm_ (a':=?_) ?_ ?_
                                  rotate_left
                                  ·show Act.put _ (some 32) _ = _
                                   simp only [Act.put,sA,sB,sC,i64_w,i32_w]
                                   rfl
                                  exact norm_ (by (simp only [putAll,Act.put,sA,sB,sC];rfl)) (hJ0_5 (adA_,cA_,adB_,cB_) _ ⟨HP.out,HG.out,HA.out,HB.out⟩)
                                 ·skip
                                  refine goes_ Try.func40 (by kernel_rfl) rfl #[.pointer (some ⟨gd,0,none⟩),.int .i64 2] (by rfl) rfl rfl (by simp only [List.map_toArray,List.map_cons,List.map_nil];rfl) ?_
                                  with_reducible refine (HP.out.roll_calls HUd.out HRd.out).mono ?_
                                  rintro e w_ ⟨rfl,hP,hfr,hsz⟩
                                  refine ⟨_,rfl,?_⟩
                                  have HG:=Aside0.mk ((hfr g _ 128 (by decide) HG.out).trans HG.out)
                                  have HB:=Aside0.mk (strR_move HB.out (fun k cells hc=>hfr k cells 9 (by decide) hc))
                                  have HP:=Aside0.mk hP
                                  clear hP hfr hsz
                                  refine hK.out _ _ trivial (fun hHeld=>?_)
                                  clear hK K
                                  refine norm_ (a':=?_) ?_ ?_
                                  rotate_left
                                  ·show Act.put _ (some 34) _ = _
                                   simp only [Act.put,sA,sB,sC,i64_w,i32_w]
                                   rfl
                                  exact norm_ (by (simp only [putAll,Act.put,sA,sB,sC];done)) (hJ2_5 (adB_,cB_) _ ⟨HP.out,HG.out,HB.out⟩)
                               ·skip
                                rintro _ w2_ ⟨hP_,hG_⟩
                                have HP:Aside0 (PaS w gd raw (rollU raw u3) v5 out w2_):=⟨hP_⟩
                                have HG:Aside0 (w2_.heap[g]? = some (.cells #[.int .i64 (1 + (i:Int) * 2 + a),.int .i64 site,.int .i64 0,.int .i64 (1 + b),.int .i64 0,.string ⟨#[]⟩,.string ⟨#[]⟩,.string ⟨#[]⟩] 128 (0,0))):=⟨hG_⟩
                                clear hP_ hG_
                                have hHeld:True:=trivial
                                refine norm_ (a':=?_) ?_ ?_
                                rotate_left
                                ·simp only [putAll,Act.put,sA,sB,sC]
                                 rfl
                                refine three_ (i:=0) (j:=5) (k:=7) (Ni:=some 32) (Nj:=some 37) (Nk:=some 39) (bm 1095 16) (bm 1126 16) (bm 1222 16) rfl rfl rfl rfl rfl rfl (by kernel_rfl) (by decide) (by decide) (by decide) (fun K hK=>?_) (fun K hK=>?_) (fun K hK=>?_)
                                ·skip
                                 refine Kd.R_lit_step Kd.string (w0:=w) w.heap.size 9 (by rfl) (N:=32) rfl (xs:=([⟨#[120]⟩,⟨#[121]⟩]:List ByteArray)) (inner:=[.string ⟨#[120]⟩,.string ⟨#[121]⟩]) (ok:=fun _=>True) (okp:=fun _=>True) ?hr ?hp (fun _ hk=>hk) trivial HP.out.bel HP.out.size (by simp) ?_
                                 case hr=>(go_simp;done)
                                 case hp=>exact Reps.one rfl (Reps.one rfl (Reps.none _ _))
                                 intro v_ w_ hR hB hg hn
                                 obtain ⟨adA_,cA_,e_⟩:=strR_ad hR (by decide)
                                 subst e_
                                 have HA:Aside0 (Kd.R Kd.string 9 w_ w.heap.size (fun _=>True) (.slice (some adA_) 2 cA_) ([⟨#[120]⟩,⟨#[121]⟩]:List ByteArray)):=⟨hR⟩
                                 have hbl:=grown_below hg
                                 have HG:=Aside0.mk ((hbl.block g (blk_lt HG.out)).trans HG.out)
                                 have HP:=Aside0.mk (HP.out.below hbl)
                                 clear hR hB hg hn hbl
                                 refine hK.out _ _ trivial (fun hHeld=>?_)
                                 clear hK K
                                 refine norm_ (a':=?_) ?_ ?_
                                 rotate_left
                                 ·show Act.put _ (some 32) _ = _
                                  simp only [Act.put,sA,sB,sC,i64_w,i32_w]
                                  rfl
                                 refine pure_ (i:=3) (N:=some 35) (v:=?_) (a':=?_) (bm 1103 16) rfl rfl (by kernel_rfl) (fun _ _ _ h=>h) (Or.inl ⟨by rfl,?_⟩) ?_ ?_
                                 rotate_left
                                 ·intro w'
                                  go_simp
                                  with_reducible rfl
                                 rotate_left
                                 ·simp only [Act.put,sA,sB,sC,i64_w,i32_w]
                                  rfl
                                 exact norm_ (by (simp only [putAll,Act.put,sA,sB,sC];rfl)) (hJ0_2 (adA_,cA_) _ ⟨HP.out,HG.out,HA.out⟩)
                                ·skip
                                 refine Kd.R_lit_step Kd.string (w0:=w) w.heap.size 9 (by rfl) (N:=37) rfl (xs:=([⟨#[]⟩,⟨#[49]⟩,⟨#[50]⟩]:List ByteArray)) (inner:=[.string ⟨#[]⟩,.string ⟨#[49]⟩,.string ⟨#[50]⟩]) (ok:=fun _=>True) (okp:=fun _=>True) ?hr ?hp (fun _ hk=>hk) trivial HP.out.bel HP.out.size (by simp) ?_
                                 case hr=>(go_simp;done)
                                 case hp=>exact Reps.one rfl (Reps.one rfl (Reps.one rfl (Reps.none _ _)))
                                 intro v_ w_ hR hB hg hn
                                 obtain ⟨adB_,cB_,e_⟩:=strR_ad hR (by decide)
                                 subst e_
                                 have HB:Aside0 (Kd.R Kd.string 9 w_ w.heap.size (fun _=>True) (.slice (some adB_) 3 cB_) ([⟨#[]⟩,⟨#[49]⟩,⟨#[50]⟩]:List ByteArray)):=⟨hR⟩
                                 have hbl:=grown_below hg
                                 have HG:=Aside0.mk ((hbl.block g (blk_lt HG.out)).trans HG.out)
                                 have HP:=Aside0.mk (HP.out.below hbl)
                                 clear hR hB hg hn hbl
                                 refine hK.out _ _ trivial (fun hHeld=>?_)
                                 clear hK K
                                 refine norm_ (a':=?_) ?_ ?_
                                 rotate_left
                                 ·show Act.put _ (some 37) _ = _
                                  simp only [Act.put,sA,sB,sC,i64_w,i32_w]
                                  rfl
                                 exact norm_ (by (simp only [putAll,Act.put,sA,sB,sC];rfl)) (hJ2_5 (adB_,cB_) _ ⟨HP.out,HG.out,HB.out⟩)
                                ·skip
                                 refine goes_ Try.func40 (by kernel_rfl) rfl #[.pointer (some ⟨gd,0,none⟩),.int .i64 3] (by rfl) rfl rfl (by simp only [List.map_toArray,List.map_cons,List.map_nil];rfl) ?_
                                 with_reducible refine (HP.out.roll_calls HUe.out HRe.out).mono ?_
                                 rintro e w_ ⟨rfl,hP,hfr,hsz⟩
                                 refine ⟨_,rfl,?_⟩
                                 have HG:=Aside0.mk ((hfr g _ 128 (by decide) HG.out).trans HG.out)
                                 have HP:=Aside0.mk hP
                                 clear hP hfr hsz
                                 refine hK.out _ _ trivial (fun hHeld=>?_)
                                 clear hK K
                                 refine norm_ (a':=?_) ?_ ?_
                                 rotate_left
                                 ·show Act.put _ (some 39) _ = _
                                  simp only [Act.put,sA,sB,sC,i64_w,i32_w]
                                  rfl
                                 exact norm_ (by (simp only [putAll,Act.put,sA,sB,sC];done)) (hJ2_7 () _ ⟨HP.out,HG.out⟩)
                              ·skip
                               rintro ⟨adA_,cA_⟩ w0_ ⟨hP_,hG_,hHA_⟩
                               have HP:Aside0 (PaS w gd raw u3 v5 out w0_):=⟨hP_⟩
                               have HG:Aside0 (w0_.heap[g]? = some (.cells #[.int .i64 (1 + (i:Int) * 2 + a),.int .i64 site,.int .i64 0,.int .i64 (1 + b),.int .i64 0,.string ⟨#[]⟩,.string ⟨#[]⟩,.string ⟨#[]⟩] 128 (0,0))):=⟨hG_⟩
                               have HA:Aside0 (Kd.R Kd.string 9 w0_ w.heap.size (fun _=>True) (.slice (some adA_) 2 cA_) ([⟨#[120]⟩,⟨#[121]⟩]:List ByteArray)):=⟨hHA_⟩
                               clear hP_ hG_ hHA_
                               have hHeld:True:=trivial
                               refine norm_ (a':=?_) ?_ ?_
                               rotate_left
                               ·simp only [putAll,Act.put,sA,sB,sC]
                                rfl
                               refine two_ (i:=2) (j:=5) (Ni:=some 34) (Nj:=some 37) (bm 1095 16) (bm 1123 16) rfl rfl rfl rfl (by kernel_rfl) (by decide) (by decide) (fun K hK=>?_) (fun K hK=>?_)
                               ·skip
                                refine goes_ Try.func40 (by kernel_rfl) rfl #[.pointer (some ⟨gd,0,none⟩),.int .i64 2] (by rfl) rfl rfl (by simp only [List.map_toArray,List.map_cons,List.map_nil];rfl) ?_
                                with_reducible refine (HP.out.roll_calls HUd.out HRd.out).mono ?_
                                rintro e w_ ⟨rfl,hP,hfr,hsz⟩
                                refine ⟨_,rfl,?_⟩
                                have HG:=Aside0.mk ((hfr g _ 128 (by decide) HG.out).trans HG.out)
                                have HA:=Aside0.mk (strR_move HA.out (fun k cells hc=>hfr k cells 9 (by decide) hc))
                                have HP:=Aside0.mk hP
                                clear hP hfr hsz
                                refine hK.out _ _ trivial (fun hHeld=>?_)
                                clear hK K
                                refine norm_ (a':=?_) ?_ ?_
                                rotate_left
                                ·show Act.put _ (some 34) _ = _
                                 simp only [Act.put,sA,sB,sC,i64_w,i32_w]
                                 rfl
                                refine pure_ (i:=3) (N:=some 35) (v:=?_) (a':=?_) (bm 1103 16) rfl rfl (by kernel_rfl) (fun _ _ _ h=>h) (Or.inl ⟨by rfl,?_⟩) ?_ ?_
                                rotate_left
                                ·intro w'
                                 go_simp
                                 with_reducible rfl
                                rotate_left
                                ·simp only [Act.put,sA,sB,sC,i64_w,i32_w]
                                 rfl
                                exact norm_ (by (simp only [putAll,Act.put,sA,sB,sC];done)) (hJ0_2 (adA_,cA_) _ ⟨HP.out,HG.out,HA.out⟩)
                               ·skip
                                refine Kd.R_lit_step Kd.string (w0:=w) w.heap.size 9 (by rfl) (N:=37) rfl (xs:=([⟨#[]⟩,⟨#[49]⟩,⟨#[50]⟩]:List ByteArray)) (inner:=[.string ⟨#[]⟩,.string ⟨#[49]⟩,.string ⟨#[50]⟩]) (ok:=fun _=>True) (okp:=fun _=>True) ?hr ?hp (fun _ hk=>hk) trivial HP.out.bel HP.out.size (by simp) ?_
                                case hr=>(go_simp;done)
                                case hp=>exact Reps.one rfl (Reps.one rfl (Reps.one rfl (Reps.none _ _)))
                                intro v_ w_ hR hB hg hn
                                obtain ⟨adB_,cB_,e_⟩:=strR_ad hR (by decide)
                                subst e_
                                have HB:Aside0 (Kd.R Kd.string 9 w_ w.heap.size (fun _=>True) (.slice (some adB_) 3 cB_) ([⟨#[]⟩,⟨#[49]⟩,⟨#[50]⟩]:List ByteArray)):=⟨hR⟩
                                have hbl:=grown_below hg
                                have HG:=Aside0.mk ((hbl.block g (blk_lt HG.out)).trans HG.out)
                                have HP:=Aside0.mk (HP.out.below hbl)
                                have HA:=Aside0.mk (Kd.R_below HA.out hbl)
                                clear hR hB hg hn hbl
                                refine hK.out _ _ trivial (fun hHeld=>?_)
                                clear hK K
                                refine norm_ (a':=?_) ?_ ?_
                                rotate_left
                                ·show Act.put _ (some 37) _ = _
                                 simp only [Act.put,sA,sB,sC,i64_w,i32_w]
                                 rfl
                                exact norm_ (by (simp only [putAll,Act.put,sA,sB,sC];rfl)) (hJ0_5 (adA_,cA_,adB_,cB_) _ ⟨HP.out,HG.out,HA.out,HB.out⟩)
                             ·skip
                              rintro _ w2_7_ ⟨hP_,hG_⟩
                              have HP:Aside0 (PaS w gd raw (rollU raw (rollU raw u3)) v5 out w2_7_):=⟨hP_⟩
                              have HG:Aside0 (w2_7_.heap[g]? = some (.cells #[.int .i64 (1 + (i:Int) * 2 + a),.int .i64 site,.int .i64 0,.int .i64 (1 + b),.int .i64 0,.string ⟨#[]⟩,.string ⟨#[]⟩,.string ⟨#[]⟩] 128 (0,0))):=⟨hG_⟩
                              clear hP_ hG_
                              have hHeld:True:=trivial
                              refine norm_ (a':=?_) ?_ ?_
                              rotate_left
                              ·simp only [putAll,Act.put,sA,sB,sC]
                               rfl
                              refine three_ (i:=0) (j:=5) (k:=11) (Ni:=some 32) (Nj:=some 37) (Nk:=none) (bm 1223 16) (bm 1254 16) (bm 3270 16) rfl rfl rfl rfl rfl rfl (by kernel_rfl) (by decide) (by decide) (by decide) (fun K hK=>?_) (fun K hK=>?_) (fun K hK=>?_)
                              ·skip
                               refine Kd.R_lit_step Kd.string (w0:=w) w.heap.size 9 (by rfl) (N:=32) rfl (xs:=([⟨#[120]⟩,⟨#[121]⟩]:List ByteArray)) (inner:=[.string ⟨#[120]⟩,.string ⟨#[121]⟩]) (ok:=fun _=>True) (okp:=fun _=>True) ?hr ?hp (fun _ hk=>hk) trivial HP.out.bel HP.out.size (by simp) ?_
                               case hr=>(go_simp;done)
                               case hp=>exact Reps.one rfl (Reps.one rfl (Reps.none _ _))
                               intro v_ w_ hR hB hg hn
                               obtain ⟨adA_,cA_,e_⟩:=strR_ad hR (by decide)
                               subst e_
                               have HA:Aside0 (Kd.R Kd.string 9 w_ w.heap.size (fun _=>True) (.slice (some adA_) 2 cA_) ([⟨#[120]⟩,⟨#[121]⟩]:List ByteArray)):=⟨hR⟩
                               have hbl:=grown_below hg
                               have HG:=Aside0.mk ((hbl.block g (blk_lt HG.out)).trans HG.out)
                               have HP:=Aside0.mk (HP.out.below hbl)
                               clear hR hB hg hn hbl
                               refine hK.out _ _ trivial (fun hHeld=>?_)
                               clear hK K
                               refine norm_ (a':=?_) ?_ ?_
                               rotate_left
                               ·show Act.put _ (some 32) _ = _
                                simp only [Act.put,sA,sB,sC,i64_w,i32_w]
                                rfl
                               refine pure_ (i:=3) (N:=some 35) (v:=?_) (a':=?_) (bm 1231 16) rfl rfl (by kernel_rfl) (fun _ _ _ h=>h) (Or.inl ⟨by rfl,?_⟩) ?_ ?_
                               rotate_left
                               ·intro w'
                                go_simp
                                with_reducible rfl
                               rotate_left
                               ·simp only [Act.put,sA,sB,sC,i64_w,i32_w]
                                rfl
                               exact norm_ (by (simp only [putAll,Act.put,sA,sB,sC];rfl)) (hJ0_2_7 (adA_,cA_) _ ⟨HP.out,HG.out,HA.out⟩)
                              ·skip
                               refine Kd.R_lit_step Kd.string (w0:=w) w.heap.size 9 (by rfl) (N:=37) rfl (xs:=([⟨#[]⟩,⟨#[49]⟩,⟨#[50]⟩]:List ByteArray)) (inner:=[.string ⟨#[]⟩,.string ⟨#[49]⟩,.string ⟨#[50]⟩]) (ok:=fun _=>True) (okp:=fun _=>True) ?hr ?hp (fun _ hk=>hk) trivial HP.out.bel HP.out.size (by simp) ?_
                               case hr=>(go_simp;done)
                               case hp=>exact Reps.one rfl (Reps.one rfl (Reps.one rfl (Reps.none _ _)))
                               intro v_ w_ hR hB hg hn
                               obtain ⟨adB_,cB_,e_⟩:=strR_ad hR (by decide)
                               subst e_
                               have HB:Aside0 (Kd.R Kd.string 9 w_ w.heap.size (fun _=>True) (.slice (some adB_) 3 cB_) ([⟨#[]⟩,⟨#[49]⟩,⟨#[50]⟩]:List ByteArray)):=⟨hR⟩
                               have hbl:=grown_below hg
                               have HG:=Aside0.mk ((hbl.block g (blk_lt HG.out)).trans HG.out)
                               have HP:=Aside0.mk (HP.out.below hbl)
                               clear hR hB hg hn hbl
                               refine hK.out _ _ trivial (fun hHeld=>?_)
                               clear hK K
                               refine norm_ (a':=?_) ?_ ?_
                               rotate_left
                               ·show Act.put _ (some 37) _ = _
                                simp only [Act.put,sA,sB,sC,i64_w,i32_w]
                                rfl
                               refine pure_ (i:=8) (N:=some 40) (v:=?_) (a':=?_) (bm 1510 16) rfl rfl (by kernel_rfl) (fun _ _ _ h=>h) (Or.inl ⟨by rfl,?_⟩) ?_ ?_
                               rotate_left
                               ·intro w'
                                go_simp
                                with_reducible rfl
                               rotate_left
                               ·simp only [Act.put,sA,sB,sC,i64_w,i32_w]
                                rfl
                               exact norm_ (by (simp only [putAll,Act.put,sA,sB,sC];rfl)) (hJ2_5_7 (adB_,cB_) _ ⟨HP.out,HG.out,HB.out⟩)
                              ·skip
                               have hs_:=(blk_cell HG.out 2).trans rfl
                               have hf_:=blk_frozen HG.out 2
                               refine skip_ (w1:=?_) (by rfl) rfl ?_ ?_
                               rotate_left
                               ·go_simp
                                rfl
                               have HG0:=HG
                               have HG:=Aside0.mk (blk_put HG.out 2 (.int .i64 1) #[.int .i64 (1 + (i:Int) * 2 + a),.int .i64 site,.int .i64 1,.int .i64 (1 + b),.int .i64 0,.string ⟨#[]⟩,.string ⟨#[]⟩,.string ⟨#[]⟩] rfl)
                               have HP:=Aside0.mk (HP.out.set HG0.out HGL.out HGN.out 2 (.int .i64 1))
                               clear HG0 hs_ hf_
                               refine hK.out _ _ trivial (fun hHeld=>?_)
                               clear hK K
                               exact norm_ (by (simp only [putAll,Act.put,sA,sB,sC];done)) (hJ2_7_11 () _ ⟨HP.out,HG.out⟩)
                            ·skip
                             rintro ⟨adB_,cB_⟩ w2_5_ ⟨hP_,hG_,hHB_⟩
                             have HP:Aside0 (PaS w gd raw (rollU raw u3) v5 out w2_5_):=⟨hP_⟩
                             have HG:Aside0 (w2_5_.heap[g]? = some (.cells #[.int .i64 (1 + (i:Int) * 2 + a),.int .i64 site,.int .i64 0,.int .i64 (1 + b),.int .i64 0,.string ⟨#[]⟩,.string ⟨#[]⟩,.string ⟨#[]⟩] 128 (0,0))):=⟨hG_⟩
                             have HB:Aside0 (Kd.R Kd.string 9 w2_5_ w.heap.size (fun _=>True) (.slice (some adB_) 3 cB_) ([⟨#[]⟩,⟨#[49]⟩,⟨#[50]⟩]:List ByteArray)):=⟨hHB_⟩
                             clear hP_ hG_ hHB_
                             have hHeld:True:=trivial
                             refine norm_ (a':=?_) ?_ ?_
                             rotate_left
                             ·simp only [putAll,Act.put,sA,sB,sC]
                              rfl
                             refine two_ (i:=0) (j:=7) (Ni:=some 32) (Nj:=some 39) (bm 1127 16) (bm 1254 16) rfl rfl rfl rfl (by kernel_rfl) (by decide) (by decide) (fun K hK=>?_) (fun K hK=>?_)
                             ·skip
                              refine Kd.R_lit_step Kd.string (w0:=w) w.heap.size 9 (by rfl) (N:=32) rfl (xs:=([⟨#[120]⟩,⟨#[121]⟩]:List ByteArray)) (inner:=[.string ⟨#[120]⟩,.string ⟨#[121]⟩]) (ok:=fun _=>True) (okp:=fun _=>True) ?hr ?hp (fun _ hk=>hk) trivial HP.out.bel HP.out.size (by simp) ?_
                              case hr=>(go_simp;done)
                              case hp=>exact Reps.one rfl (Reps.one rfl (Reps.none _ _))
                              intro v_ w_ hR hB hg hn
                              obtain ⟨adA_,cA_,e_⟩:=strR_ad hR (by decide)
                              subst e_
                              have HA:Aside0 (Kd.R Kd.string 9 w_ w.heap.size (fun _=>True) (.slice (some adA_) 2 cA_) ([⟨#[120]⟩,⟨#[121]⟩]:List ByteArray)):=⟨hR⟩
                              have hbl:=grown_below hg
                              have HG:=Aside0.mk ((hbl.block g (blk_lt HG.out)).trans HG.out)
                              have HP:=Aside0.mk (HP.out.below hbl)
                              have HB:=Aside0.mk (Kd.R_below HB.out hbl)
                              clear hR hB hg hn hbl
                              refine hK.out _ _ trivial (fun hHeld=>?_)
                              clear hK K
                              refine norm_ (a':=?_) ?_ ?_
                              rotate_left
                              ·show Act.put _ (some 32) _ = _
                               simp only [Act.put,sA,sB,sC,i64_w,i32_w]
                               rfl
                              refine pure_ (i:=3) (N:=some 35) (v:=?_) (a':=?_) (bm 1135 16) rfl rfl (by kernel_rfl) (fun _ _ _ h=>h) (Or.inl ⟨by rfl,?_⟩) ?_ ?_
                              rotate_left
                              ·intro w'
                               go_simp
                               with_reducible rfl
                              rotate_left
                              ·simp only [Act.put,sA,sB,sC,i64_w,i32_w]
                               rfl
                              exact norm_ (by (simp only [putAll,Act.put,sA,sB,sC];rfl)) (hJ0_2_5 (adA_,cA_,adB_,cB_) _ ⟨HP.out,HG.out,HA.out,HB.out⟩)
                             ·skip
                              refine goes_ Try.func40 (by kernel_rfl) rfl #[.pointer (some ⟨gd,0,none⟩),.int .i64 3] (by rfl) rfl rfl (by simp only [List.map_toArray,List.map_cons,List.map_nil];rfl) ?_
                              with_reducible refine (HP.out.roll_calls HUe.out HRe.out).mono ?_
                              rintro e w_ ⟨rfl,hP,hfr,hsz⟩
                              refine ⟨_,rfl,?_⟩
                              have HG:=Aside0.mk ((hfr g _ 128 (by decide) HG.out).trans HG.out)
                              have HB:=Aside0.mk (strR_move HB.out (fun k cells hc=>hfr k cells 9 (by decide) hc))
                              have HP:=Aside0.mk hP
                              clear hP hfr hsz
                              refine hK.out _ _ trivial (fun hHeld=>?_)
                              clear hK K
                              refine norm_ (a':=?_) ?_ ?_
                              rotate_left
                              ·show Act.put _ (some 39) _ = _
                               simp only [Act.put,sA,sB,sC,i64_w,i32_w]
                               rfl
                              refine pure_ (i:=8) (N:=some 40) (v:=?_) (a':=?_) (bm 1510 16) rfl rfl (by kernel_rfl) (fun _ _ _ h=>h) (Or.inl ⟨by rfl,?_⟩) ?_ ?_
                              rotate_left
                              ·intro w'
                               go_simp
                               with_reducible rfl
                              rotate_left
                              ·simp only [Act.put,sA,sB,sC,i64_w,i32_w]
                               rfl
                              exact norm_ (by (simp only [putAll,Act.put,sA,sB,sC];done)) (hJ2_5_7 (adB_,cB_) _ ⟨HP.out,HG.out,HB.out⟩)
                           ·skip
                            rintro ⟨adA_,cA_,adB_,cB_⟩ w0_5_ ⟨hP_,hG_,hHA_,hHB_⟩
                            have HP:Aside0 (PaS w gd raw u3 v5 out w0_5_):=⟨hP_⟩
                            have HG:Aside0 (w0_5_.heap[g]? = some (.cells #[.int .i64 (1 + (i:Int) * 2 + a),.int .i64 site,.int .i64 0,.int .i64 (1 + b),.int .i64 0,.string ⟨#[]⟩,.string ⟨#[]⟩,.string ⟨#[]⟩] 128 (0,0))):=⟨hG_⟩
                            have HA:Aside0 (Kd.R Kd.string 9 w0_5_ w.heap.size (fun _=>True) (.slice (some adA_) 2 cA_) ([⟨#[120]⟩,⟨#[121]⟩]:List ByteArray)):=⟨hHA_⟩
                            have HB:Aside0 (Kd.R Kd.string 9 w0_5_ w.heap.size (fun _=>True) (.slice (some adB_) 3 cB_) ([⟨#[]⟩,⟨#[49]⟩,⟨#[50]⟩]:List ByteArray)):=⟨hHB_⟩
                            clear hP_ hG_ hHA_ hHB_
                            have hHeld:True:=trivial
                            refine norm_ (a':=?_) ?_ ?_
                            rotate_left
                            ·simp only [putAll,Act.put,sA,sB,sC]
                             rfl
                            refine one_ (i:=2) (N:=some 34) (bm 1127 16) rfl rfl (by kernel_rfl) (by decide) (fun K hK=>?_)
                            refine goes_ Try.func40 (by kernel_rfl) rfl #[.pointer (some ⟨gd,0,none⟩),.int .i64 2] (by rfl) rfl rfl (by simp only [List.map_toArray,List.map_cons,List.map_nil];rfl) ?_
                            with_reducible refine (HP.out.roll_calls HUd.out HRd.out).mono ?_
                            rintro e w_ ⟨rfl,hP,hfr,hsz⟩
                            refine ⟨_,rfl,?_⟩
                            have HG:=Aside0.mk ((hfr g _ 128 (by decide) HG.out).trans HG.out)
                            have HA:=Aside0.mk (strR_move HA.out (fun k cells hc=>hfr k cells 9 (by decide) hc))
                            have HB:=Aside0.mk (strR_move HB.out (fun k cells hc=>hfr k cells 9 (by decide) hc))
                            have HP:=Aside0.mk hP
                            clear hP hfr hsz
                            refine hK.out _ _ trivial (fun hHeld=>?_)
                            clear hK K
                            refine norm_ (a':=?_) ?_ ?_
                            rotate_left
                            ·show Act.put _ (some 34) _ = _
                             simp only [Act.put,sA,sB,sC,i64_w,i32_w]
                             rfl
                            refine pure_ (i:=3) (N:=some 35) (v:=?_) (a':=?_) (bm 1135 16) rfl rfl (by kernel_rfl) (fun _ _ _ h=>h) (Or.inl ⟨by rfl,?_⟩) ?_ ?_
                            rotate_left
                            ·intro w'
                             go_simp
                             with_reducible rfl
                            rotate_left
                            ·simp only [Act.put,sA,sB,sC,i64_w,i32_w]
                             rfl
                            exact norm_ (by (simp only [putAll,Act.put,sA,sB,sC];done)) (hJ0_2_5 (adA_,cA_,adB_,cB_) _ ⟨HP.out,HG.out,HA.out,HB.out⟩)
                          ·skip
                           rintro ⟨adA_,cA_⟩ w0_2_ ⟨hP_,hG_,hHA_⟩
                           have HP:Aside0 (PaS w gd raw (rollU raw u3) v5 out w0_2_):=⟨hP_⟩
                           have HG:Aside0 (w0_2_.heap[g]? = some (.cells #[.int .i64 (1 + (i:Int) * 2 + a),.int .i64 site,.int .i64 0,.int .i64 (1 + b),.int .i64 0,.string ⟨#[]⟩,.string ⟨#[]⟩,.string ⟨#[]⟩] 128 (0,0))):=⟨hG_⟩
                           have HA:Aside0 (Kd.R Kd.string 9 w0_2_ w.heap.size (fun _=>True) (.slice (some adA_) 2 cA_) ([⟨#[120]⟩,⟨#[121]⟩]:List ByteArray)):=⟨hHA_⟩
                           clear hP_ hG_ hHA_
                           have hHeld:True:=trivial
                           refine norm_ (a':=?_) ?_ ?_
                           rotate_left
                           ·simp only [putAll,Act.put,sA,sB,sC]
                            rfl
                           refine three_ (i:=4) (j:=5) (k:=7) (Ni:=some 36) (Nj:=some 37) (Nk:=some 39) (bm 1119 16) (bm 1135 16) (bm 1231 16) rfl rfl rfl rfl rfl rfl (by kernel_rfl) (by decide) (by decide) (by decide) (fun K hK=>?_) (fun K hK=>?_) (fun K hK=>?_)
                           ·skip
                            obtain ⟨ad',e_,hx⟩:=Kd.at_string (Kd.R_reads' HA.out).2.2 d HBd.out.1 (by have:=HBd.out.2;simp only [List.length_cons,List.length_nil];omega)
                            cases e_
                            replace hx:_ = some (Value.string (xyS d)):=hx
                            refine value_ (w1:=?_) (v:=?_) (by rfl) rfl ?_ ?_
                            rotate_left 2
                            ·go_simp
                             constructor
                             ·rfl
                             ·rfl
                            clear hx
                            refine hK.out _ _ trivial (fun hHeld=>?_)
                            clear hK K
                            refine norm_ (a':=?_) ?_ ?_
                            rotate_left
                            ·show Act.put _ (some 36) _ = _
                             simp only [Act.put,sA,sB,sC,i64_w,i32_w]
                             rfl
                            exact norm_ (by (simp only [putAll,Act.put,sA,sB,sC];done)) (hJ0_2_4 (adA_,cA_) _ ⟨HP.out,HG.out⟩)
                           ·skip
                            refine Kd.R_lit_step Kd.string (w0:=w) w.heap.size 9 (by rfl) (N:=37) rfl (xs:=([⟨#[]⟩,⟨#[49]⟩,⟨#[50]⟩]:List ByteArray)) (inner:=[.string ⟨#[]⟩,.string ⟨#[49]⟩,.string ⟨#[50]⟩]) (ok:=fun _=>True) (okp:=fun _=>True) ?hr ?hp (fun _ hk=>hk) trivial HP.out.bel HP.out.size (by simp) ?_
                            case hr=>(go_simp;done)
                            case hp=>exact Reps.one rfl (Reps.one rfl (Reps.one rfl (Reps.none _ _)))
                            intro v_ w_ hR hB hg hn
                            obtain ⟨adB_,cB_,e_⟩:=strR_ad hR (by decide)
                            subst e_
                            have HB:Aside0 (Kd.R Kd.string 9 w_ w.heap.size (fun _=>True) (.slice (some adB_) 3 cB_) ([⟨#[]⟩,⟨#[49]⟩,⟨#[50]⟩]:List ByteArray)):=⟨hR⟩
                            have hbl:=grown_below hg
                            have HG:=Aside0.mk ((hbl.block g (blk_lt HG.out)).trans HG.out)
                            have HP:=Aside0.mk (HP.out.below hbl)
                            have HA:=Aside0.mk (Kd.R_below HA.out hbl)
                            clear hR hB hg hn hbl
                            refine hK.out _ _ trivial (fun hHeld=>?_)
                            clear hK K
                            refine norm_ (a':=?_) ?_ ?_
                            rotate_left
                            ·show Act.put _ (some 37) _ = _
                             simp only [Act.put,sA,sB,sC,i64_w,i32_w]
                             rfl
                            exact norm_ (by (simp only [putAll,Act.put,sA,sB,sC];rfl)) (hJ0_2_5 (adA_,cA_,adB_,cB_) _ ⟨HP.out,HG.out,HA.out,HB.out⟩)
                           ·skip
                            refine goes_ Try.func40 (by kernel_rfl) rfl #[.pointer (some ⟨gd,0,none⟩),.int .i64 3] (by rfl) rfl rfl (by simp only [List.map_toArray,List.map_cons,List.map_nil];rfl) ?_
                            with_reducible refine (HP.out.roll_calls HUe.out HRe.out).mono ?_
                            rintro e w_ ⟨rfl,hP,hfr,hsz⟩
                            refine ⟨_,rfl,?_⟩
                            have HG:=Aside0.mk ((hfr g _ 128 (by decide) HG.out).trans HG.out)
                            have HA:=Aside0.mk (strR_move HA.out (fun k cells hc=>hfr k cells 9 (by decide) hc))
                            have HP:=Aside0.mk hP
                            clear hP hfr hsz
                            refine hK.out _ _ trivial (fun hHeld=>?_)
                            clear hK K
                            refine norm_ (a':=?_) ?_ ?_
                            rotate_left
                            ·show Act.put _ (some 39) _ = _
                             simp only [Act.put,sA,sB,sC,i64_w,i32_w]
                             rfl
                            exact norm_ (by (simp only [putAll,Act.put,sA,sB,sC];done)) (hJ0_2_7 (adA_,cA_) _ ⟨HP.out,HG.out,HA.out⟩)
                         ·skip
                          rintro _ w2_7_11_ ⟨hP_,hG_⟩
                          have HP:Aside0 (PaS w gd raw (rollU raw (rollU raw u3)) v5 out w2_7_11_):=⟨hP_⟩
                          have HG:Aside0 (w2_7_11_.heap[g]? = some (.cells #[.int .i64 (1 + (i:Int) * 2 + a),.int .i64 site,.int .i64 1,.int .i64 (1 + b),.int .i64 0,.string ⟨#[]⟩,.string ⟨#[]⟩,.string ⟨#[]⟩] 128 (0,0))):=⟨hG_⟩
                          clear hP_ hG_
                          have hHeld:True:=trivial
                          refine norm_ (a':=?_) ?_ ?_
                          rotate_left
                          ·simp only [putAll,Act.put,sA,sB,sC]
                           rfl
                          refine two_ (i:=0) (j:=5) (Ni:=some 32) (Nj:=some 37) (bm 3271 16) (bm 3302 16) rfl rfl rfl rfl (by kernel_rfl) (by decide) (by decide) (fun K hK=>?_) (fun K hK=>?_)
                          ·skip
                           refine Kd.R_lit_step Kd.string (w0:=w) w.heap.size 9 (by rfl) (N:=32) rfl (xs:=([⟨#[120]⟩,⟨#[121]⟩]:List ByteArray)) (inner:=[.string ⟨#[120]⟩,.string ⟨#[121]⟩]) (ok:=fun _=>True) (okp:=fun _=>True) ?hr ?hp (fun _ hk=>hk) trivial HP.out.bel HP.out.size (by simp) ?_
                           case hr=>(go_simp;done)
                           case hp=>exact Reps.one rfl (Reps.one rfl (Reps.none _ _))
                           intro v_ w_ hR hB hg hn
                           obtain ⟨adA_,cA_,e_⟩:=strR_ad hR (by decide)
                           subst e_
                           have HA:Aside0 (Kd.R Kd.string 9 w_ w.heap.size (fun _=>True) (.slice (some adA_) 2 cA_) ([⟨#[120]⟩,⟨#[121]⟩]:List ByteArray)):=⟨hR⟩
                           have hbl:=grown_below hg
                           have HG:=Aside0.mk ((hbl.block g (blk_lt HG.out)).trans HG.out)
                           have HP:=Aside0.mk (HP.out.below hbl)
                           clear hR hB hg hn hbl
                           refine hK.out _ _ trivial (fun hHeld=>?_)
                           clear hK K
                           refine norm_ (a':=?_) ?_ ?_
                           rotate_left
                           ·show Act.put _ (some 32) _ = _
                            simp only [Act.put,sA,sB,sC,i64_w,i32_w]
                            rfl
                           refine pure_ (i:=3) (N:=some 35) (v:=?_) (a':=?_) (bm 3279 16) rfl rfl (by kernel_rfl) (fun _ _ _ h=>h) (Or.inl ⟨by rfl,?_⟩) ?_ ?_
                           rotate_left
                           ·intro w'
                            go_simp
                            with_reducible rfl
                           rotate_left
                           ·simp only [Act.put,sA,sB,sC,i64_w,i32_w]
                            rfl
                           exact norm_ (by (simp only [putAll,Act.put,sA,sB,sC];rfl)) (hJ0_2_7_11 (adA_,cA_) _ ⟨HP.out,HG.out,HA.out⟩)
                          ·skip
                           refine Kd.R_lit_step Kd.string (w0:=w) w.heap.size 9 (by rfl) (N:=37) rfl (xs:=([⟨#[]⟩,⟨#[49]⟩,⟨#[50]⟩]:List ByteArray)) (inner:=[.string ⟨#[]⟩,.string ⟨#[49]⟩,.string ⟨#[50]⟩]) (ok:=fun _=>True) (okp:=fun _=>True) ?hr ?hp (fun _ hk=>hk) trivial HP.out.bel HP.out.size (by simp) ?_
                           case hr=>(go_simp;done)
                           case hp=>exact Reps.one rfl (Reps.one rfl (Reps.one rfl (Reps.none _ _)))
                           intro v_ w_ hR hB hg hn
                           obtain ⟨adB_,cB_,e_⟩:=strR_ad hR (by decide)
                           subst e_
                           have HB:Aside0 (Kd.R Kd.string 9 w_ w.heap.size (fun _=>True) (.slice (some adB_) 3 cB_) ([⟨#[]⟩,⟨#[49]⟩,⟨#[50]⟩]:List ByteArray)):=⟨hR⟩
                           have hbl:=grown_below hg
                           have HG:=Aside0.mk ((hbl.block g (blk_lt HG.out)).trans HG.out)
                           have HP:=Aside0.mk (HP.out.below hbl)
                           clear hR hB hg hn hbl
                           refine hK.out _ _ trivial (fun hHeld=>?_)
                           clear hK K
                           refine norm_ (a':=?_) ?_ ?_
                           rotate_left
                           ·show Act.put _ (some 37) _ = _
                            simp only [Act.put,sA,sB,sC,i64_w,i32_w]
                            rfl
                           refine pure_ (i:=8) (N:=some 40) (v:=?_) (a':=?_) (bm 3558 16) rfl rfl (by kernel_rfl) (fun _ _ _ h=>h) (Or.inl ⟨by rfl,?_⟩) ?_ ?_
                           rotate_left
                           ·intro w'
                            go_simp
                            with_reducible rfl
                           rotate_left
                           ·simp only [Act.put,sA,sB,sC,i64_w,i32_w]
                            rfl
                           exact norm_ (by (simp only [putAll,Act.put,sA,sB,sC];rfl)) (hJ2_5_7_11 (adB_,cB_) _ ⟨HP.out,HG.out,HB.out⟩)
                        ·skip
                         rintro ⟨adB_,cB_⟩ w2_5_7_ ⟨hP_,hG_,hHB_⟩
                         have HP:Aside0 (PaS w gd raw (rollU raw (rollU raw u3)) v5 out w2_5_7_):=⟨hP_⟩
                         have HG:Aside0 (w2_5_7_.heap[g]? = some (.cells #[.int .i64 (1 + (i:Int) * 2 + a),.int .i64 site,.int .i64 0,.int .i64 (1 + b),.int .i64 0,.string ⟨#[]⟩,.string ⟨#[]⟩,.string ⟨#[]⟩] 128 (0,0))):=⟨hG_⟩
                         have HB:Aside0 (Kd.R Kd.string 9 w2_5_7_ w.heap.size (fun _=>True) (.slice (some adB_) 3 cB_) ([⟨#[]⟩,⟨#[49]⟩,⟨#[50]⟩]:List ByteArray)):=⟨hHB_⟩
                         clear hP_ hG_ hHB_
                         have hHeld:True:=trivial
                         refine norm_ (a':=?_) ?_ ?_
                         rotate_left
                         ·simp only [putAll,Act.put,sA,sB,sC]
                          rfl
                         refine three_ (i:=0) (j:=9) (k:=11) (Ni:=some 32) (Nj:=some 41) (Nk:=none) (bm 1511 16) (bm 2022 16) (bm 3558 16) rfl rfl rfl rfl rfl rfl (by kernel_rfl) (by decide) (by decide) (by decide) (fun K hK=>?_) (fun K hK=>?_) (fun K hK=>?_)
                         ·skip
                          refine Kd.R_lit_step Kd.string (w0:=w) w.heap.size 9 (by rfl) (N:=32) rfl (xs:=([⟨#[120]⟩,⟨#[121]⟩]:List ByteArray)) (inner:=[.string ⟨#[120]⟩,.string ⟨#[121]⟩]) (ok:=fun _=>True) (okp:=fun _=>True) ?hr ?hp (fun _ hk=>hk) trivial HP.out.bel HP.out.size (by simp) ?_
                          case hr=>(go_simp;done)
                          case hp=>exact Reps.one rfl (Reps.one rfl (Reps.none _ _))
                          intro v_ w_ hR hB hg hn
                          obtain ⟨adA_,cA_,e_⟩:=strR_ad hR (by decide)
                          subst e_
                          have HA:Aside0 (Kd.R Kd.string 9 w_ w.heap.size (fun _=>True) (.slice (some adA_) 2 cA_) ([⟨#[120]⟩,⟨#[121]⟩]:List ByteArray)):=⟨hR⟩
                          have hbl:=grown_below hg
                          have HG:=Aside0.mk ((hbl.block g (blk_lt HG.out)).trans HG.out)
                          have HP:=Aside0.mk (HP.out.below hbl)
                          have HB:=Aside0.mk (Kd.R_below HB.out hbl)
                          clear hR hB hg hn hbl
                          refine hK.out _ _ trivial (fun hHeld=>?_)
                          clear hK K
                          refine norm_ (a':=?_) ?_ ?_
                          rotate_left
                          ·show Act.put _ (some 32) _ = _
                           simp only [Act.put,sA,sB,sC,i64_w,i32_w]
                           rfl
                          refine pure_ (i:=3) (N:=some 35) (v:=?_) (a':=?_) (bm 1519 16) rfl rfl (by kernel_rfl) (fun _ _ _ h=>h) (Or.inl ⟨by rfl,?_⟩) ?_ ?_
                          rotate_left
                          ·intro w'
                           go_simp
                           with_reducible rfl
                          rotate_left
                          ·simp only [Act.put,sA,sB,sC,i64_w,i32_w]
                           rfl
                          exact norm_ (by (simp only [putAll,Act.put,sA,sB,sC];rfl)) (hJ0_2_5_7 (adA_,cA_,adB_,cB_) _ ⟨HP.out,HG.out,HA.out,HB.out⟩)
                         ·skip
                          obtain ⟨ad',e_,hx⟩:=Kd.at_string (Kd.R_reads' HB.out).2.2 e HBe.out.1 (by have:=HBe.out.2;simp only [List.length_cons,List.length_nil];omega)
                          cases e_
                          replace hx:_ = some (Value.string (noS e)):=hx
                          refine value_ (w1:=?_) (v:=?_) (by rfl) rfl ?_ ?_
                          rotate_left 2
                          ·go_simp
                           constructor
                           ·rfl
                           ·rfl
                          clear hx
                          refine hK.out _ _ trivial (fun hHeld=>?_)
                          clear hK K
                          refine norm_ (a':=?_) ?_ ?_
                          rotate_left
                          ·show Act.put _ (some 41) _ = _
                           simp only [Act.put,sA,sB,sC,i64_w,i32_w]
                           rfl
                          exact norm_ (by (simp only [putAll,Act.put,sA,sB,sC];done)) (hJ2_5_7_9 (adB_,cB_) _ ⟨HP.out,HG.out⟩)
                         ·skip
                          have hs_:=(blk_cell HG.out 2).trans rfl
                          have hf_:=blk_frozen HG.out 2
                          refine skip_ (w1:=?_) (by rfl) rfl ?_ ?_
                          rotate_left
                          ·go_simp
                           rfl
                          have HG0:=HG
                          have HG:=Aside0.mk (blk_put HG.out 2 (.int .i64 1) #[.int .i64 (1 + (i:Int) * 2 + a),.int .i64 site,.int .i64 1,.int .i64 (1 + b),.int .i64 0,.string ⟨#[]⟩,.string ⟨#[]⟩,.string ⟨#[]⟩] rfl)
                          have HP:=Aside0.mk (HP.out.set HG0.out HGL.out HGN.out 2 (.int .i64 1))
                          have HB:=Aside0.mk (strR_set HB.out HG0.out (by decide) 2 (.int .i64 1))
                          clear HG0 hs_ hf_
                          refine hK.out _ _ trivial (fun hHeld=>?_)
                          clear hK K
                          exact norm_ (by (simp only [putAll,Act.put,sA,sB,sC];done)) (hJ2_5_7_11 (adB_,cB_) _ ⟨HP.out,HG.out,HB.out⟩)
                       ·skip
                        rintro ⟨adA_,cA_⟩ w0_2_7_ ⟨hP_,hG_,hHA_⟩
                        have HP:Aside0 (PaS w gd raw (rollU raw (rollU raw u3)) v5 out w0_2_7_):=⟨hP_⟩
                        have HG:Aside0 (w0_2_7_.heap[g]? = some (.cells #[.int .i64 (1 + (i:Int) * 2 + a),.int .i64 site,.int .i64 0,.int .i64 (1 + b),.int .i64 0,.string ⟨#[]⟩,.string ⟨#[]⟩,.string ⟨#[]⟩] 128 (0,0))):=⟨hG_⟩
                        have HA:Aside0 (Kd.R Kd.string 9 w0_2_7_ w.heap.size (fun _=>True) (.slice (some adA_) 2 cA_) ([⟨#[120]⟩,⟨#[121]⟩]:List ByteArray)):=⟨hHA_⟩
                        clear hP_ hG_ hHA_
                        have hHeld:True:=trivial
                        refine norm_ (a':=?_) ?_ ?_
                        rotate_left
                        ·simp only [putAll,Act.put,sA,sB,sC]
                         rfl
                        refine three_ (i:=4) (j:=5) (k:=11) (Ni:=some 36) (Nj:=some 37) (Nk:=none) (bm 1247 16) (bm 1263 16) (bm 3279 16) rfl rfl rfl rfl rfl rfl (by kernel_rfl) (by decide) (by decide) (by decide) (fun K hK=>?_) (fun K hK=>?_) (fun K hK=>?_)
                        ·skip
                         obtain ⟨ad',e_,hx⟩:=Kd.at_string (Kd.R_reads' HA.out).2.2 d HBd.out.1 (by have:=HBd.out.2;simp only [List.length_cons,List.length_nil];omega)
                         cases e_
                         replace hx:_ = some (Value.string (xyS d)):=hx
                         refine value_ (w1:=?_) (v:=?_) (by rfl) rfl ?_ ?_
                         rotate_left 2
                         ·go_simp
                          constructor
                          ·rfl
                          ·rfl
                         clear hx
                         refine hK.out _ _ trivial (fun hHeld=>?_)
                         clear hK K
                         refine norm_ (a':=?_) ?_ ?_
                         rotate_left
                         ·show Act.put _ (some 36) _ = _
                          simp only [Act.put,sA,sB,sC,i64_w,i32_w]
                          rfl
                         exact norm_ (by (simp only [putAll,Act.put,sA,sB,sC];done)) (hJ0_2_4_7 (adA_,cA_) _ ⟨HP.out,HG.out⟩)
                        ·skip
                         refine Kd.R_lit_step Kd.string (w0:=w) w.heap.size 9 (by rfl) (N:=37) rfl (xs:=([⟨#[]⟩,⟨#[49]⟩,⟨#[50]⟩]:List ByteArray)) (inner:=[.string ⟨#[]⟩,.string ⟨#[49]⟩,.string ⟨#[50]⟩]) (ok:=fun _=>True) (okp:=fun _=>True) ?hr ?hp (fun _ hk=>hk) trivial HP.out.bel HP.out.size (by simp) ?_
                         case hr=>(go_simp;done)
                         case hp=>exact Reps.one rfl (Reps.one rfl (Reps.one rfl (Reps.none _ _)))
                         intro v_ w_ hR hB hg hn
                         obtain ⟨adB_,cB_,e_⟩:=strR_ad hR (by decide)
                         subst e_
                         have HB:Aside0 (Kd.R Kd.string 9 w_ w.heap.size (fun _=>True) (.slice (some adB_) 3 cB_) ([⟨#[]⟩,⟨#[49]⟩,⟨#[50]⟩]:List ByteArray)):=⟨hR⟩
                         have hbl:=grown_below hg
                         have HG:=Aside0.mk ((hbl.block g (blk_lt HG.out)).trans HG.out)
                         have HP:=Aside0.mk (HP.out.below hbl)
                         have HA:=Aside0.mk (Kd.R_below HA.out hbl)
                         clear hR hB hg hn hbl
                         refine hK.out _ _ trivial (fun hHeld=>?_)
                         clear hK K
                         refine norm_ (a':=?_) ?_ ?_
                         rotate_left
                         ·show Act.put _ (some 37) _ = _
                          simp only [Act.put,sA,sB,sC,i64_w,i32_w]
                          rfl
                         refine pure_ (i:=8) (N:=some 40) (v:=?_) (a':=?_) (bm 1519 16) rfl rfl (by kernel_rfl) (fun _ _ _ h=>h) (Or.inl ⟨by rfl,?_⟩) ?_ ?_
                         rotate_left
                         ·intro w'
                          go_simp
                          with_reducible rfl
                         rotate_left
                         ·simp only [Act.put,sA,sB,sC,i64_w,i32_w]
                          rfl
                         exact norm_ (by (simp only [putAll,Act.put,sA,sB,sC];rfl)) (hJ0_2_5_7 (adA_,cA_,adB_,cB_) _ ⟨HP.out,HG.out,HA.out,HB.out⟩)
                        ·skip
                         have hs_:=(blk_cell HG.out 2).trans rfl
                         have hf_:=blk_frozen HG.out 2
                         refine skip_ (w1:=?_) (by rfl) rfl ?_ ?_
                         rotate_left
                         ·go_simp
                          rfl
                         have HG0:=HG
                         have HG:=Aside0.mk (blk_put HG.out 2 (.int .i64 1) #[.int .i64 (1 + (i:Int) * 2 + a),.int .i64 site,.int .i64 1,.int .i64 (1 + b),.int .i64 0,.string ⟨#[]⟩,.string ⟨#[]⟩,.string ⟨#[]⟩] rfl)
                         have HP:=Aside0.mk (HP.out.set HG0.out HGL.out HGN.out 2 (.int .i64 1))
                         have HA:=Aside0.mk (strR_set HA.out HG0.out (by decide) 2 (.int .i64 1))
                         clear HG0 hs_ hf_
                         refine hK.out _ _ trivial (fun hHeld=>?_)
                         clear hK K
                         exact norm_ (by (simp only [putAll,Act.put,sA,sB,sC];done)) (hJ0_2_7_11 (adA_,cA_) _ ⟨HP.out,HG.out,HA.out⟩)
                      ·skip
                       rintro ⟨adA_,cA_,adB_,cB_⟩ w0_2_5_ ⟨hP_,hG_,hHA_,hHB_⟩
                       have HP:Aside0 (PaS w gd raw (rollU raw u3) v5 out w0_2_5_):=⟨hP_⟩
                       have HG:Aside0 (w0_2_5_.heap[g]? = some (.cells #[.int .i64 (1 + (i:Int) * 2 + a),.int .i64 site,.int .i64 0,.int .i64 (1 + b),.int .i64 0,.string ⟨#[]⟩,.string ⟨#[]⟩,.string ⟨#[]⟩] 128 (0,0))):=⟨hG_⟩
                       have HA:Aside0 (Kd.R Kd.string 9 w0_2_5_ w.heap.size (fun _=>True) (.slice (some adA_) 2 cA_) ([⟨#[120]⟩,⟨#[121]⟩]:List ByteArray)):=⟨hHA_⟩
                       have HB:Aside0 (Kd.R Kd.string 9 w0_2_5_ w.heap.size (fun _=>True) (.slice (some adB_) 3 cB_) ([⟨#[]⟩,⟨#[49]⟩,⟨#[50]⟩]:List ByteArray)):=⟨hHB_⟩
                       clear hP_ hG_ hHA_ hHB_
                       have hHeld:True:=trivial
                       refine norm_ (a':=?_) ?_ ?_
                       rotate_left
                       ·simp only [putAll,Act.put,sA,sB,sC]
                        rfl
                       refine two_ (i:=4) (j:=7) (Ni:=some 36) (Nj:=some 39) (bm 1151 16) (bm 1263 16) rfl rfl rfl rfl (by kernel_rfl) (by decide) (by decide) (fun K hK=>?_) (fun K hK=>?_)
                       ·skip
                        obtain ⟨ad',e_,hx⟩:=Kd.at_string (Kd.R_reads' HA.out).2.2 d HBd.out.1 (by have:=HBd.out.2;simp only [List.length_cons,List.length_nil];omega)
                        cases e_
                        replace hx:_ = some (Value.string (xyS d)):=hx
                        refine value_ (w1:=?_) (v:=?_) (by rfl) rfl ?_ ?_
                        rotate_left 2
                        ·go_simp
                         constructor
                         ·rfl
                         ·rfl
                        clear hx
                        refine hK.out _ _ trivial (fun hHeld=>?_)
                        clear hK K
                        refine norm_ (a':=?_) ?_ ?_
                        rotate_left
                        ·show Act.put _ (some 36) _ = _
                         simp only [Act.put,sA,sB,sC,i64_w,i32_w]
                         rfl
                        exact norm_ (by (simp only [putAll,Act.put,sA,sB,sC];done)) (hJ0_2_4_5 (adA_,cA_,adB_,cB_) _ ⟨HP.out,HG.out,HB.out⟩)
                       ·skip
                        refine goes_ Try.func40 (by kernel_rfl) rfl #[.pointer (some ⟨gd,0,none⟩),.int .i64 3] (by rfl) rfl rfl (by simp only [List.map_toArray,List.map_cons,List.map_nil];rfl) ?_
                        with_reducible refine (HP.out.roll_calls HUe.out HRe.out).mono ?_
                        rintro e w_ ⟨rfl,hP,hfr,hsz⟩
                        refine ⟨_,rfl,?_⟩
                        have HG:=Aside0.mk ((hfr g _ 128 (by decide) HG.out).trans HG.out)
                        have HA:=Aside0.mk (strR_move HA.out (fun k cells hc=>hfr k cells 9 (by decide) hc))
                        have HB:=Aside0.mk (strR_move HB.out (fun k cells hc=>hfr k cells 9 (by decide) hc))
                        have HP:=Aside0.mk hP
                        clear hP hfr hsz
                        refine hK.out _ _ trivial (fun hHeld=>?_)
                        clear hK K
                        refine norm_ (a':=?_) ?_ ?_
                        rotate_left
                        ·show Act.put _ (some 39) _ = _
                         simp only [Act.put,sA,sB,sC,i64_w,i32_w]
                         rfl
                        refine pure_ (i:=8) (N:=some 40) (v:=?_) (a':=?_) (bm 1519 16) rfl rfl (by kernel_rfl) (fun _ _ _ h=>h) (Or.inl ⟨by rfl,?_⟩) ?_ ?_
                        rotate_left
                        ·intro w'
                         go_simp
                         with_reducible rfl
                        rotate_left
                        ·simp only [Act.put,sA,sB,sC,i64_w,i32_w]
                         rfl
                        exact norm_ (by (simp only [putAll,Act.put,sA,sB,sC];done)) (hJ0_2_5_7 (adA_,cA_,adB_,cB_) _ ⟨HP.out,HG.out,HA.out,HB.out⟩)
                     ·skip
                      rintro ⟨adA_,cA_⟩ w0_2_4_ ⟨hP_,hG_⟩
                      have HP:Aside0 (PaS w gd raw (rollU raw u3) v5 out w0_2_4_):=⟨hP_⟩
                      have HG:Aside0 (w0_2_4_.heap[g]? = some (.cells #[.int .i64 (1 + (i:Int) * 2 + a),.int .i64 site,.int .i64 0,.int .i64 (1 + b),.int .i64 0,.string ⟨#[]⟩,.string ⟨#[]⟩,.string ⟨#[]⟩] 128 (0,0))):=⟨hG_⟩
                      clear hP_ hG_
                      have hHeld:True:=trivial
                      refine norm_ (a':=?_) ?_ ?_
                      rotate_left
                      ·simp only [putAll,Act.put,sA,sB,sC]
                       rfl
                      refine two_ (i:=5) (j:=7) (Ni:=some 37) (Nj:=some 39) (bm 1151 16) (bm 1247 16) rfl rfl rfl rfl (by kernel_rfl) (by decide) (by decide) (fun K hK=>?_) (fun K hK=>?_)
                      ·skip
                       refine Kd.R_lit_step Kd.string (w0:=w) w.heap.size 9 (by rfl) (N:=37) rfl (xs:=([⟨#[]⟩,⟨#[49]⟩,⟨#[50]⟩]:List ByteArray)) (inner:=[.string ⟨#[]⟩,.string ⟨#[49]⟩,.string ⟨#[50]⟩]) (ok:=fun _=>True) (okp:=fun _=>True) ?hr ?hp (fun _ hk=>hk) trivial HP.out.bel HP.out.size (by simp) ?_
                       case hr=>(go_simp;done)
                       case hp=>exact Reps.one rfl (Reps.one rfl (Reps.one rfl (Reps.none _ _)))
                       intro v_ w_ hR hB hg hn
                       obtain ⟨adB_,cB_,e_⟩:=strR_ad hR (by decide)
                       subst e_
                       have HB:Aside0 (Kd.R Kd.string 9 w_ w.heap.size (fun _=>True) (.slice (some adB_) 3 cB_) ([⟨#[]⟩,⟨#[49]⟩,⟨#[50]⟩]:List ByteArray)):=⟨hR⟩
                       have hbl:=grown_below hg
                       have HG:=Aside0.mk ((hbl.block g (blk_lt HG.out)).trans HG.out)
                       have HP:=Aside0.mk (HP.out.below hbl)
                       clear hR hB hg hn hbl
                       refine hK.out _ _ trivial (fun hHeld=>?_)
                       clear hK K
                       refine norm_ (a':=?_) ?_ ?_
                       rotate_left
                       ·show Act.put _ (some 37) _ = _
                        simp only [Act.put,sA,sB,sC,i64_w,i32_w]
                        rfl
                       exact norm_ (by (simp only [putAll,Act.put,sA,sB,sC];rfl)) (hJ0_2_4_5 (adA_,cA_,adB_,cB_) _ ⟨HP.out,HG.out,HB.out⟩)
                      ·skip
                       refine goes_ Try.func40 (by kernel_rfl) rfl #[.pointer (some ⟨gd,0,none⟩),.int .i64 3] (by rfl) rfl rfl (by simp only [List.map_toArray,List.map_cons,List.map_nil];rfl) ?_
                       with_reducible refine (HP.out.roll_calls HUe.out HRe.out).mono ?_
                       rintro e w_ ⟨rfl,hP,hfr,hsz⟩
                       refine ⟨_,rfl,?_⟩
                       have HG:=Aside0.mk ((hfr g _ 128 (by decide) HG.out).trans HG.out)
                       have HP:=Aside0.mk hP
                       clear hP hfr hsz
                       refine hK.out _ _ trivial (fun hHeld=>?_)
                       clear hK K
                       refine norm_ (a':=?_) ?_ ?_
                       rotate_left
                       ·show Act.put _ (some 39) _ = _
                        simp only [Act.put,sA,sB,sC,i64_w,i32_w]
                        rfl
                       exact norm_ (by (simp only [putAll,Act.put,sA,sB,sC];done)) (hJ0_2_4_7 (adA_,cA_) _ ⟨HP.out,HG.out⟩)
                    ·skip
                     rintro ⟨adB_,cB_⟩ w2_5_7_11_ ⟨hP_,hG_,hHB_⟩
                     have HP:Aside0 (PaS w gd raw (rollU raw (rollU raw u3)) v5 out w2_5_7_11_):=⟨hP_⟩
                     have HG:Aside0 (w2_5_7_11_.heap[g]? = some (.cells #[.int .i64 (1 + (i:Int) * 2 + a),.int .i64 site,.int .i64 1,.int .i64 (1 + b),.int .i64 0,.string ⟨#[]⟩,.string ⟨#[]⟩,.string ⟨#[]⟩] 128 (0,0))):=⟨hG_⟩
                     have HB:Aside0 (Kd.R Kd.string 9 w2_5_7_11_ w.heap.size (fun _=>True) (.slice (some adB_) 3 cB_) ([⟨#[]⟩,⟨#[49]⟩,⟨#[50]⟩]:List ByteArray)):=⟨hHB_⟩
                     clear hP_ hG_ hHB_
                     have hHeld:True:=trivial
                     refine norm_ (a':=?_) ?_ ?_
                     rotate_left
                     ·simp only [putAll,Act.put,sA,sB,sC]
                      rfl
                     refine two_ (i:=0) (j:=9) (Ni:=some 32) (Nj:=some 41) (bm 3559 16) (bm 4070 16) rfl rfl rfl rfl (by kernel_rfl) (by decide) (by decide) (fun K hK=>?_) (fun K hK=>?_)
                     ·skip
                      refine Kd.R_lit_step Kd.string (w0:=w) w.heap.size 9 (by rfl) (N:=32) rfl (xs:=([⟨#[120]⟩,⟨#[121]⟩]:List ByteArray)) (inner:=[.string ⟨#[120]⟩,.string ⟨#[121]⟩]) (ok:=fun _=>True) (okp:=fun _=>True) ?hr ?hp (fun _ hk=>hk) trivial HP.out.bel HP.out.size (by simp) ?_
                      case hr=>(go_simp;done)
                      case hp=>exact Reps.one rfl (Reps.one rfl (Reps.none _ _))
                      intro v_ w_ hR hB hg hn
                      obtain ⟨adA_,cA_,e_⟩:=strR_ad hR (by decide)
                      subst e_
                      have HA:Aside0 (Kd.R Kd.string 9 w_ w.heap.size (fun _=>True) (.slice (some adA_) 2 cA_) ([⟨#[120]⟩,⟨#[121]⟩]:List ByteArray)):=⟨hR⟩
                      have hbl:=grown_below hg
                      have HG:=Aside0.mk ((hbl.block g (blk_lt HG.out)).trans HG.out)
                      have HP:=Aside0.mk (HP.out.below hbl)
                      have HB:=Aside0.mk (Kd.R_below HB.out hbl)
                      clear hR hB hg hn hbl
                      refine hK.out _ _ trivial (fun hHeld=>?_)
                      clear hK K
                      refine norm_ (a':=?_) ?_ ?_
                      rotate_left
                      ·show Act.put _ (some 32) _ = _
                       simp only [Act.put,sA,sB,sC,i64_w,i32_w]
                       rfl
                      refine pure_ (i:=3) (N:=some 35) (v:=?_) (a':=?_) (bm 3567 16) rfl rfl (by kernel_rfl) (fun _ _ _ h=>h) (Or.inl ⟨by rfl,?_⟩) ?_ ?_
                      rotate_left
                      ·intro w'
                       go_simp
                       with_reducible rfl
                      rotate_left
                      ·simp only [Act.put,sA,sB,sC,i64_w,i32_w]
                       rfl
                      exact norm_ (by (simp only [putAll,Act.put,sA,sB,sC];rfl)) (hJ0_2_5_7_11 (adA_,cA_,adB_,cB_) _ ⟨HP.out,HG.out,HA.out,HB.out⟩)
                     ·skip
                      obtain ⟨ad',e_,hx⟩:=Kd.at_string (Kd.R_reads' HB.out).2.2 e HBe.out.1 (by have:=HBe.out.2;simp only [List.length_cons,List.length_nil];omega)
                      cases e_
                      replace hx:_ = some (Value.string (noS e)):=hx
                      refine value_ (w1:=?_) (v:=?_) (by rfl) rfl ?_ ?_
                      rotate_left 2
                      ·go_simp
                       constructor
                       ·rfl
                       ·rfl
                      clear hx
                      refine hK.out _ _ trivial (fun hHeld=>?_)
                      clear hK K
                      refine norm_ (a':=?_) ?_ ?_
                      rotate_left
                      ·show Act.put _ (some 41) _ = _
                       simp only [Act.put,sA,sB,sC,i64_w,i32_w]
                       rfl
                      exact norm_ (by (simp only [putAll,Act.put,sA,sB,sC];done)) (hJ2_5_7_9_11 (adB_,cB_) _ ⟨HP.out,HG.out⟩)
                   ·skip
                    rintro ⟨adB_,cB_⟩ w2_5_7_9_ ⟨hP_,hG_⟩
                    have HP:Aside0 (PaS w gd raw (rollU raw (rollU raw u3)) v5 out w2_5_7_9_):=⟨hP_⟩
                    have HG:Aside0 (w2_5_7_9_.heap[g]? = some (.cells #[.int .i64 (1 + (i:Int) * 2 + a),.int .i64 site,.int .i64 0,.int .i64 (1 + b),.int .i64 0,.string ⟨#[]⟩,.string ⟨#[]⟩,.string ⟨#[]⟩] 128 (0,0))):=⟨hG_⟩
                    clear hP_ hG_
                    have hHeld:True:=trivial
                    refine norm_ (a':=?_) ?_ ?_
                    rotate_left
                    ·simp only [putAll,Act.put,sA,sB,sC]
                     rfl
                    refine two_ (i:=0) (j:=11) (Ni:=some 32) (Nj:=none) (bm 2023 16) (bm 4070 16) rfl rfl rfl rfl (by kernel_rfl) (by decide) (by decide) (fun K hK=>?_) (fun K hK=>?_)
                    ·skip
                     refine Kd.R_lit_step Kd.string (w0:=w) w.heap.size 9 (by rfl) (N:=32) rfl (xs:=([⟨#[120]⟩,⟨#[121]⟩]:List ByteArray)) (inner:=[.string ⟨#[120]⟩,.string ⟨#[121]⟩]) (ok:=fun _=>True) (okp:=fun _=>True) ?hr ?hp (fun _ hk=>hk) trivial HP.out.bel HP.out.size (by simp) ?_
                     case hr=>(go_simp;done)
                     case hp=>exact Reps.one rfl (Reps.one rfl (Reps.none _ _))
                     intro v_ w_ hR hB hg hn
                     obtain ⟨adA_,cA_,e_⟩:=strR_ad hR (by decide)
                     subst e_
                     have HA:Aside0 (Kd.R Kd.string 9 w_ w.heap.size (fun _=>True) (.slice (some adA_) 2 cA_) ([⟨#[120]⟩,⟨#[121]⟩]:List ByteArray)):=⟨hR⟩
                     have hbl:=grown_below hg
                     have HG:=Aside0.mk ((hbl.block g (blk_lt HG.out)).trans HG.out)
                     have HP:=Aside0.mk (HP.out.below hbl)
                     clear hR hB hg hn hbl
                     refine hK.out _ _ trivial (fun hHeld=>?_)
                     clear hK K
                     refine norm_ (a':=?_) ?_ ?_
                     rotate_left
                     ·show Act.put _ (some 32) _ = _
                      simp only [Act.put,sA,sB,sC,i64_w,i32_w]
                      rfl
                     refine pure_ (i:=3) (N:=some 35) (v:=?_) (a':=?_) (bm 2031 16) rfl rfl (by kernel_rfl) (fun _ _ _ h=>h) (Or.inl ⟨by rfl,?_⟩) ?_ ?_
                     rotate_left
                     ·intro w'
                      go_simp
                      with_reducible rfl
                     rotate_left
                     ·simp only [Act.put,sA,sB,sC,i64_w,i32_w]
                      rfl
                     exact norm_ (by (simp only [putAll,Act.put,sA,sB,sC];rfl)) (hJ0_2_5_7_9 (adA_,cA_,adB_,cB_) _ ⟨HP.out,HG.out,HA.out⟩)
                    ·skip
                     have hs_:=(blk_cell HG.out 2).trans rfl
                     have hf_:=blk_frozen HG.out 2
                     refine skip_ (w1:=?_) (by rfl) rfl ?_ ?_
                     rotate_left
                     ·go_simp
                      rfl
                     have HG0:=HG
                     have HG:=Aside0.mk (blk_put HG.out 2 (.int .i64 1) #[.int .i64 (1 + (i:Int) * 2 + a),.int .i64 site,.int .i64 1,.int .i64 (1 + b),.int .i64 0,.string ⟨#[]⟩,.string ⟨#[]⟩,.string ⟨#[]⟩] rfl)
                     have HP:=Aside0.mk (HP.out.set HG0.out HGL.out HGN.out 2 (.int .i64 1))
                     clear HG0 hs_ hf_
                     refine hK.out _ _ trivial (fun hHeld=>?_)
                     clear hK K
                     exact norm_ (by (simp only [putAll,Act.put,sA,sB,sC];done)) (hJ2_5_7_9_11 (adB_,cB_) _ ⟨HP.out,HG.out⟩)
                  ·skip
                   rintro ⟨adA_,cA_⟩ w0_2_7_11_ ⟨hP_,hG_,hHA_⟩
                   have HP:Aside0 (PaS w gd raw (rollU raw (rollU raw u3)) v5 out w0_2_7_11_):=⟨hP_⟩
                   have HG:Aside0 (w0_2_7_11_.heap[g]? = some (.cells #[.int .i64 (1 + (i:Int) * 2 + a),.int .i64 site,.int .i64 1,.int .i64 (1 + b),.int .i64 0,.string ⟨#[]⟩,.string ⟨#[]⟩,.string ⟨#[]⟩] 128 (0,0))):=⟨hG_⟩
                   have HA:Aside0 (Kd.R Kd.string 9 w0_2_7_11_ w.heap.size (fun _=>True) (.slice (some adA_) 2 cA_) ([⟨#[120]⟩,⟨#[121]⟩]:List ByteArray)):=⟨hHA_⟩
                   clear hP_ hG_ hHA_
                   have hHeld:True:=trivial
                   refine norm_ (a':=?_) ?_ ?_
                   rotate_left
                   ·simp only [putAll,Act.put,sA,sB,sC]
                    rfl
                   refine two_ (i:=4) (j:=5) (Ni:=some 36) (Nj:=some 37) (bm 3295 16) (bm 3311 16) rfl rfl rfl rfl (by kernel_rfl) (by decide) (by decide) (fun K hK=>?_) (fun K hK=>?_)
                   ·skip
                    obtain ⟨ad',e_,hx⟩:=Kd.at_string (Kd.R_reads' HA.out).2.2 d HBd.out.1 (by have:=HBd.out.2;simp only [List.length_cons,List.length_nil];omega)
                    cases e_
                    replace hx:_ = some (Value.string (xyS d)):=hx
                    refine value_ (w1:=?_) (v:=?_) (by rfl) rfl ?_ ?_
                    rotate_left 2
                    ·go_simp
                     constructor
                     ·rfl
                     ·rfl
                    clear hx
                    refine hK.out _ _ trivial (fun hHeld=>?_)
                    clear hK K
                    refine norm_ (a':=?_) ?_ ?_
                    rotate_left
                    ·show Act.put _ (some 36) _ = _
                     simp only [Act.put,sA,sB,sC,i64_w,i32_w]
                     rfl
                    refine pure_ (i:=12) (N:=some 43) (v:=?_) (a':=?_) (bm 7391 16) rfl rfl (by kernel_rfl) (fun _ _ _ h=>h) (Or.inl ⟨by rfl,?_⟩) ?_ ?_
                    rotate_left
                    ·intro w'
                     go_simp
                     with_reducible rfl
                    rotate_left
                    ·simp only [Act.put,sA,sB,sC,i64_w,i32_w]
                     rfl
                    exact norm_ (by (simp only [putAll,Act.put,sA,sB,sC];done)) (hJ0_2_4_7_11 (adA_,cA_) _ ⟨HP.out,HG.out⟩)
                   ·skip
                    refine Kd.R_lit_step Kd.string (w0:=w) w.heap.size 9 (by rfl) (N:=37) rfl (xs:=([⟨#[]⟩,⟨#[49]⟩,⟨#[50]⟩]:List ByteArray)) (inner:=[.string ⟨#[]⟩,.string ⟨#[49]⟩,.string ⟨#[50]⟩]) (ok:=fun _=>True) (okp:=fun _=>True) ?hr ?hp (fun _ hk=>hk) trivial HP.out.bel HP.out.size (by simp) ?_
                    case hr=>(go_simp;done)
                    case hp=>exact Reps.one rfl (Reps.one rfl (Reps.one rfl (Reps.none _ _)))
                    intro v_ w_ hR hB hg hn
                    obtain ⟨adB_,cB_,e_⟩:=strR_ad hR (by decide)
                    subst e_
                    have HB:Aside0 (Kd.R Kd.string 9 w_ w.heap.size (fun _=>True) (.slice (some adB_) 3 cB_) ([⟨#[]⟩,⟨#[49]⟩,⟨#[50]⟩]:List ByteArray)):=⟨hR⟩
                    have hbl:=grown_below hg
                    have HG:=Aside0.mk ((hbl.block g (blk_lt HG.out)).trans HG.out)
                    have HP:=Aside0.mk (HP.out.below hbl)
                    have HA:=Aside0.mk (Kd.R_below HA.out hbl)
                    clear hR hB hg hn hbl
                    refine hK.out _ _ trivial (fun hHeld=>?_)
                    clear hK K
                    refine norm_ (a':=?_) ?_ ?_
                    rotate_left
                    ·show Act.put _ (some 37) _ = _
                     simp only [Act.put,sA,sB,sC,i64_w,i32_w]
                     rfl
                    refine pure_ (i:=8) (N:=some 40) (v:=?_) (a':=?_) (bm 3567 16) rfl rfl (by kernel_rfl) (fun _ _ _ h=>h) (Or.inl ⟨by rfl,?_⟩) ?_ ?_
                    rotate_left
                    ·intro w'
                     go_simp
                     with_reducible rfl
                    rotate_left
                    ·simp only [Act.put,sA,sB,sC,i64_w,i32_w]
                     rfl
                    exact norm_ (by (simp only [putAll,Act.put,sA,sB,sC];rfl)) (hJ0_2_5_7_11 (adA_,cA_,adB_,cB_) _ ⟨HP.out,HG.out,HA.out,HB.out⟩)
                 ·skip
                  rintro ⟨adA_,cA_,adB_,cB_⟩ w0_2_5_7_ ⟨hP_,hG_,hHA_,hHB_⟩
                  have HP:Aside0 (PaS w gd raw (rollU raw (rollU raw u3)) v5 out w0_2_5_7_):=⟨hP_⟩
                  have HG:Aside0 (w0_2_5_7_.heap[g]? = some (.cells #[.int .i64 (1 + (i:Int) * 2 + a),.int .i64 site,.int .i64 0,.int .i64 (1 + b),.int .i64 0,.string ⟨#[]⟩,.string ⟨#[]⟩,.string ⟨#[]⟩] 128 (0,0))):=⟨hG_⟩
                  have HA:Aside0 (Kd.R Kd.string 9 w0_2_5_7_ w.heap.size (fun _=>True) (.slice (some adA_) 2 cA_) ([⟨#[120]⟩,⟨#[121]⟩]:List ByteArray)):=⟨hHA_⟩
                  have HB:Aside0 (Kd.R Kd.string 9 w0_2_5_7_ w.heap.size (fun _=>True) (.slice (some adB_) 3 cB_) ([⟨#[]⟩,⟨#[49]⟩,⟨#[50]⟩]:List ByteArray)):=⟨hHB_⟩
                  clear hP_ hG_ hHA_ hHB_
                  have hHeld:True:=trivial
                  refine norm_ (a':=?_) ?_ ?_
                  rotate_left
                  ·simp only [putAll,Act.put,sA,sB,sC]
                   rfl
                  refine three_ (i:=4) (j:=9) (k:=11) (Ni:=some 36) (Nj:=some 41) (Nk:=none) (bm 1535 16) (bm 2031 16) (bm 3567 16) rfl rfl rfl rfl rfl rfl (by kernel_rfl) (by decide) (by decide) (by decide) (fun K hK=>?_) (fun K hK=>?_) (fun K hK=>?_)
                  ·skip
                   obtain ⟨ad',e_,hx⟩:=Kd.at_string (Kd.R_reads' HA.out).2.2 d HBd.out.1 (by have:=HBd.out.2;simp only [List.length_cons,List.length_nil];omega)
                   cases e_
                   replace hx:_ = some (Value.string (xyS d)):=hx
                   refine value_ (w1:=?_) (v:=?_) (by rfl) rfl ?_ ?_
                   rotate_left 2
                   ·go_simp
                    constructor
                    ·rfl
                    ·rfl
                   clear hx
                   refine hK.out _ _ trivial (fun hHeld=>?_)
                   clear hK K
                   refine norm_ (a':=?_) ?_ ?_
                   rotate_left
                   ·show Act.put _ (some 36) _ = _
                    simp only [Act.put,sA,sB,sC,i64_w,i32_w]
                    rfl
                   exact norm_ (by (simp only [putAll,Act.put,sA,sB,sC];done)) (hJ0_2_4_5_7 (adA_,cA_,adB_,cB_) _ ⟨HP.out,HG.out,HB.out⟩)
                  ·skip
                   obtain ⟨ad',e_,hx⟩:=Kd.at_string (Kd.R_reads' HB.out).2.2 e HBe.out.1 (by have:=HBe.out.2;simp only [List.length_cons,List.length_nil];omega)
                   cases e_
                   replace hx:_ = some (Value.string (noS e)):=hx
                   refine value_ (w1:=?_) (v:=?_) (by rfl) rfl ?_ ?_
                   rotate_left 2
                   ·go_simp
                    constructor
                    ·rfl
                    ·rfl
                   clear hx
                   refine hK.out _ _ trivial (fun hHeld=>?_)
                   clear hK K
                   refine norm_ (a':=?_) ?_ ?_
                   rotate_left
                   ·show Act.put _ (some 41) _ = _
                    simp only [Act.put,sA,sB,sC,i64_w,i32_w]
                    rfl
                   exact norm_ (by (simp only [putAll,Act.put,sA,sB,sC];done)) (hJ0_2_5_7_9 (adA_,cA_,adB_,cB_) _ ⟨HP.out,HG.out,HA.out⟩)
                  ·skip
                   have hs_:=(blk_cell HG.out 2).trans rfl
                   have hf_:=blk_frozen HG.out 2
                   refine skip_ (w1:=?_) (by rfl) rfl ?_ ?_
                   rotate_left
                   ·go_simp
                    rfl
                   have HG0:=HG
                   have HG:=Aside0.mk (blk_put HG.out 2 (.int .i64 1) #[.int .i64 (1 + (i:Int) * 2 + a),.int .i64 site,.int .i64 1,.int .i64 (1 + b),.int .i64 0,.string ⟨#[]⟩,.string ⟨#[]⟩,.string ⟨#[]⟩] rfl)
                   have HP:=Aside0.mk (HP.out.set HG0.out HGL.out HGN.out 2 (.int .i64 1))
                   have HA:=Aside0.mk (strR_set HA.out HG0.out (by decide) 2 (.int .i64 1))
                   have HB:=Aside0.mk (strR_set HB.out HG0.out (by decide) 2 (.int .i64 1))
                   clear HG0 hs_ hf_
                   refine hK.out _ _ trivial (fun hHeld=>?_)
                   clear hK K
                   exact norm_ (by (simp only [putAll,Act.put,sA,sB,sC];done)) (hJ0_2_5_7_11 (adA_,cA_,adB_,cB_) _ ⟨HP.out,HG.out,HA.out,HB.out⟩)
                ·skip
                 rintro ⟨adA_,cA_⟩ w0_2_4_7_ ⟨hP_,hG_⟩
                 have HP:Aside0 (PaS w gd raw (rollU raw (rollU raw u3)) v5 out w0_2_4_7_):=⟨hP_⟩
                 have HG:Aside0 (w0_2_4_7_.heap[g]? = some (.cells #[.int .i64 (1 + (i:Int) * 2 + a),.int .i64 site,.int .i64 0,.int .i64 (1 + b),.int .i64 0,.string ⟨#[]⟩,.string ⟨#[]⟩,.string ⟨#[]⟩] 128 (0,0))):=⟨hG_⟩
                 clear hP_ hG_
                 have hHeld:True:=trivial
                 refine norm_ (a':=?_) ?_ ?_
                 rotate_left
                 ·simp only [putAll,Act.put,sA,sB,sC]
                  rfl
                 refine two_ (i:=5) (j:=11) (Ni:=some 37) (Nj:=none) (bm 1279 16) (bm 3295 16) rfl rfl rfl rfl (by kernel_rfl) (by decide) (by decide) (fun K hK=>?_) (fun K hK=>?_)
                 ·skip
                  refine Kd.R_lit_step Kd.string (w0:=w) w.heap.size 9 (by rfl) (N:=37) rfl (xs:=([⟨#[]⟩,⟨#[49]⟩,⟨#[50]⟩]:List ByteArray)) (inner:=[.string ⟨#[]⟩,.string ⟨#[49]⟩,.string ⟨#[50]⟩]) (ok:=fun _=>True) (okp:=fun _=>True) ?hr ?hp (fun _ hk=>hk) trivial HP.out.bel HP.out.size (by simp) ?_
                  case hr=>(go_simp;done)
                  case hp=>exact Reps.one rfl (Reps.one rfl (Reps.one rfl (Reps.none _ _)))
                  intro v_ w_ hR hB hg hn
                  obtain ⟨adB_,cB_,e_⟩:=strR_ad hR (by decide)
                  subst e_
                  have HB:Aside0 (Kd.R Kd.string 9 w_ w.heap.size (fun _=>True) (.slice (some adB_) 3 cB_) ([⟨#[]⟩,⟨#[49]⟩,⟨#[50]⟩]:List ByteArray)):=⟨hR⟩
                  have hbl:=grown_below hg
                  have HG:=Aside0.mk ((hbl.block g (blk_lt HG.out)).trans HG.out)
                  have HP:=Aside0.mk (HP.out.below hbl)
                  clear hR hB hg hn hbl
                  refine hK.out _ _ trivial (fun hHeld=>?_)
                  clear hK K
                  refine norm_ (a':=?_) ?_ ?_
                  rotate_left
                  ·show Act.put _ (some 37) _ = _
                   simp only [Act.put,sA,sB,sC,i64_w,i32_w]
                   rfl
                  refine pure_ (i:=8) (N:=some 40) (v:=?_) (a':=?_) (bm 1535 16) rfl rfl (by kernel_rfl) (fun _ _ _ h=>h) (Or.inl ⟨by rfl,?_⟩) ?_ ?_
                  rotate_left
                  ·intro w'
                   go_simp
                   with_reducible rfl
                  rotate_left
                  ·simp only [Act.put,sA,sB,sC,i64_w,i32_w]
                   rfl
                  exact norm_ (by (simp only [putAll,Act.put,sA,sB,sC];rfl)) (hJ0_2_4_5_7 (adA_,cA_,adB_,cB_) _ ⟨HP.out,HG.out,HB.out⟩)
                 ·skip
                  have hs_:=(blk_cell HG.out 2).trans rfl
                  have hf_:=blk_frozen HG.out 2
                  refine skip_ (w1:=?_) (by rfl) rfl ?_ ?_
                  rotate_left
                  ·go_simp
                   rfl
                  have HG0:=HG
                  have HG:=Aside0.mk (blk_put HG.out 2 (.int .i64 1) #[.int .i64 (1 + (i:Int) * 2 + a),.int .i64 site,.int .i64 1,.int .i64 (1 + b),.int .i64 0,.string ⟨#[]⟩,.string ⟨#[]⟩,.string ⟨#[]⟩] rfl)
                  have HP:=Aside0.mk (HP.out.set HG0.out HGL.out HGN.out 2 (.int .i64 1))
                  clear HG0 hs_ hf_
                  refine hK.out _ _ trivial (fun hHeld=>?_)
                  clear hK K
                  refine pure_ (i:=12) (N:=some 43) (v:=?_) (a':=?_) (bm 7391 16) rfl rfl (by kernel_rfl) (fun _ _ _ h=>h) (Or.inl ⟨by rfl,?_⟩) ?_ ?_
                  rotate_left
                  ·intro w'
                   go_simp
                   with_reducible rfl
                  rotate_left
                  ·simp only [Act.put,sA,sB,sC,i64_w,i32_w]
                   rfl
                  exact norm_ (by (simp only [putAll,Act.put,sA,sB,sC];done)) (hJ0_2_4_7_11 (adA_,cA_) _ ⟨HP.out,HG.out⟩)
               ·skip
                rintro ⟨adA_,cA_,adB_,cB_⟩ w0_2_4_5_ ⟨hP_,hG_,hHB_⟩
                have HP:Aside0 (PaS w gd raw (rollU raw u3) v5 out w0_2_4_5_):=⟨hP_⟩
                have HG:Aside0 (w0_2_4_5_.heap[g]? = some (.cells #[.int .i64 (1 + (i:Int) * 2 + a),.int .i64 site,.int .i64 0,.int .i64 (1 + b),.int .i64 0,.string ⟨#[]⟩,.string ⟨#[]⟩,.string ⟨#[]⟩] 128 (0,0))):=⟨hG_⟩
                have HB:Aside0 (Kd.R Kd.string 9 w0_2_4_5_ w.heap.size (fun _=>True) (.slice (some adB_) 3 cB_) ([⟨#[]⟩,⟨#[49]⟩,⟨#[50]⟩]:List ByteArray)):=⟨hHB_⟩
                clear hP_ hG_ hHB_
                have hHeld:True:=trivial
                refine norm_ (a':=?_) ?_ ?_
                rotate_left
                ·simp only [putAll,Act.put,sA,sB,sC]
                 rfl
                refine one_ (i:=7) (N:=some 39) (bm 1279 16) rfl rfl (by kernel_rfl) (by decide) (fun K hK=>?_)
                refine goes_ Try.func40 (by kernel_rfl) rfl #[.pointer (some ⟨gd,0,none⟩),.int .i64 3] (by rfl) rfl rfl (by simp only [List.map_toArray,List.map_cons,List.map_nil];rfl) ?_
                with_reducible refine (HP.out.roll_calls HUe.out HRe.out).mono ?_
                rintro e w_ ⟨rfl,hP,hfr,hsz⟩
                refine ⟨_,rfl,?_⟩
                have HG:=Aside0.mk ((hfr g _ 128 (by decide) HG.out).trans HG.out)
                have HB:=Aside0.mk (strR_move HB.out (fun k cells hc=>hfr k cells 9 (by decide) hc))
                have HP:=Aside0.mk hP
                clear hP hfr hsz
                refine hK.out _ _ trivial (fun hHeld=>?_)
                clear hK K
                refine norm_ (a':=?_) ?_ ?_
                rotate_left
                ·show Act.put _ (some 39) _ = _
                 simp only [Act.put,sA,sB,sC,i64_w,i32_w]
                 rfl
                refine pure_ (i:=8) (N:=some 40) (v:=?_) (a':=?_) (bm 1535 16) rfl rfl (by kernel_rfl) (fun _ _ _ h=>h) (Or.inl ⟨by rfl,?_⟩) ?_ ?_
                rotate_left
                ·intro w'
                 go_simp
                 with_reducible rfl
                rotate_left
                ·simp only [Act.put,sA,sB,sC,i64_w,i32_w]
                 rfl
                exact norm_ (by (simp only [putAll,Act.put,sA,sB,sC];done)) (hJ0_2_4_5_7 (adA_,cA_,adB_,cB_) _ ⟨HP.out,HG.out,HB.out⟩)
              ·skip
               rintro ⟨adB_,cB_⟩ w2_5_7_9_11_ ⟨hP_,hG_⟩
               have HP:Aside0 (PaS w gd raw (rollU raw (rollU raw u3)) v5 out w2_5_7_9_11_):=⟨hP_⟩
               have HG:Aside0 (w2_5_7_9_11_.heap[g]? = some (.cells #[.int .i64 (1 + (i:Int) * 2 + a),.int .i64 site,.int .i64 1,.int .i64 (1 + b),.int .i64 0,.string ⟨#[]⟩,.string ⟨#[]⟩,.string ⟨#[]⟩] 128 (0,0))):=⟨hG_⟩
               clear hP_ hG_
               have hHeld:True:=trivial
               refine norm_ (a':=?_) ?_ ?_
               rotate_left
               ·simp only [putAll,Act.put,sA,sB,sC]
                rfl
               refine one_ (i:=0) (N:=some 32) (bm 4071 16) rfl rfl (by kernel_rfl) (by decide) (fun K hK=>?_)
               refine Kd.R_lit_step Kd.string (w0:=w) w.heap.size 9 (by rfl) (N:=32) rfl (xs:=([⟨#[120]⟩,⟨#[121]⟩]:List ByteArray)) (inner:=[.string ⟨#[120]⟩,.string ⟨#[121]⟩]) (ok:=fun _=>True) (okp:=fun _=>True) ?hr ?hp (fun _ hk=>hk) trivial HP.out.bel HP.out.size (by simp) ?_
               case hr=>(go_simp;done)
               case hp=>exact Reps.one rfl (Reps.one rfl (Reps.none _ _))
               intro v_ w_ hR hB hg hn
               obtain ⟨adA_,cA_,e_⟩:=strR_ad hR (by decide)
               subst e_
               have HA:Aside0 (Kd.R Kd.string 9 w_ w.heap.size (fun _=>True) (.slice (some adA_) 2 cA_) ([⟨#[120]⟩,⟨#[121]⟩]:List ByteArray)):=⟨hR⟩
               have hbl:=grown_below hg
               have HG:=Aside0.mk ((hbl.block g (blk_lt HG.out)).trans HG.out)
               have HP:=Aside0.mk (HP.out.below hbl)
               clear hR hB hg hn hbl
               refine hK.out _ _ trivial (fun hHeld=>?_)
               clear hK K
               refine norm_ (a':=?_) ?_ ?_
               rotate_left
               ·show Act.put _ (some 32) _ = _
                simp only [Act.put,sA,sB,sC,i64_w,i32_w]
                rfl
               refine pure_ (i:=3) (N:=some 35) (v:=?_) (a':=?_) (bm 4079 16) rfl rfl (by kernel_rfl) (fun _ _ _ h=>h) (Or.inl ⟨by rfl,?_⟩) ?_ ?_
               rotate_left
               ·intro w'
                go_simp
                with_reducible rfl
               rotate_left
               ·simp only [Act.put,sA,sB,sC,i64_w,i32_w]
                rfl
               exact norm_ (by (simp only [putAll,Act.put,sA,sB,sC];rfl)) (hJ0_2_5_7_9_11 (adA_,cA_,adB_,cB_) _ ⟨HP.out,HG.out,HA.out⟩)
             ·skip
              rintro ⟨adA_,cA_,adB_,cB_⟩ w0_2_5_7_11_ ⟨hP_,hG_,hHA_,hHB_⟩
              have HP:Aside0 (PaS w gd raw (rollU raw (rollU raw u3)) v5 out w0_2_5_7_11_):=⟨hP_⟩
              have HG:Aside0 (w0_2_5_7_11_.heap[g]? = some (.cells #[.int .i64 (1 + (i:Int) * 2 + a),.int .i64 site,.int .i64 1,.int .i64 (1 + b),.int .i64 0,.string ⟨#[]⟩,.string ⟨#[]⟩,.string ⟨#[]⟩] 128 (0,0))):=⟨hG_⟩
              have HA:Aside0 (Kd.R Kd.string 9 w0_2_5_7_11_ w.heap.size (fun _=>True) (.slice (some adA_) 2 cA_) ([⟨#[120]⟩,⟨#[121]⟩]:List ByteArray)):=⟨hHA_⟩
              have HB:Aside0 (Kd.R Kd.string 9 w0_2_5_7_11_ w.heap.size (fun _=>True) (.slice (some adB_) 3 cB_) ([⟨#[]⟩,⟨#[49]⟩,⟨#[50]⟩]:List ByteArray)):=⟨hHB_⟩
              clear hP_ hG_ hHA_ hHB_
              have hHeld:True:=trivial
              refine norm_ (a':=?_) ?_ ?_
              rotate_left
              ·simp only [putAll,Act.put,sA,sB,sC]
               rfl
              refine two_ (i:=4) (j:=9) (Ni:=some 36) (Nj:=some 41) (bm 3583 16) (bm 4079 16) rfl rfl rfl rfl (by kernel_rfl) (by decide) (by decide) (fun K hK=>?_) (fun K hK=>?_)
              ·skip
               obtain ⟨ad',e_,hx⟩:=Kd.at_string (Kd.R_reads' HA.out).2.2 d HBd.out.1 (by have:=HBd.out.2;simp only [List.length_cons,List.length_nil];omega)
               cases e_
               replace hx:_ = some (Value.string (xyS d)):=hx
               refine value_ (w1:=?_) (v:=?_) (by rfl) rfl ?_ ?_
               rotate_left 2
               ·go_simp
                constructor
                ·rfl
                ·rfl
               clear hx
               refine hK.out _ _ trivial (fun hHeld=>?_)
               clear hK K
               refine norm_ (a':=?_) ?_ ?_
               rotate_left
               ·show Act.put _ (some 36) _ = _
                simp only [Act.put,sA,sB,sC,i64_w,i32_w]
                rfl
               refine pure_ (i:=12) (N:=some 43) (v:=?_) (a':=?_) (bm 7679 16) rfl rfl (by kernel_rfl) (fun _ _ _ h=>h) (Or.inl ⟨by rfl,?_⟩) ?_ ?_
               rotate_left
               ·intro w'
                go_simp
                with_reducible rfl
               rotate_left
               ·simp only [Act.put,sA,sB,sC,i64_w,i32_w]
                rfl
               exact norm_ (by (simp only [putAll,Act.put,sA,sB,sC];done)) (hJ0_2_4_5_7_11 (adA_,cA_,adB_,cB_) _ ⟨HP.out,HG.out,HB.out⟩)
              ·skip
               obtain ⟨ad',e_,hx⟩:=Kd.at_string (Kd.R_reads' HB.out).2.2 e HBe.out.1 (by have:=HBe.out.2;simp only [List.length_cons,List.length_nil];omega)
               cases e_
               replace hx:_ = some (Value.string (noS e)):=hx
               refine value_ (w1:=?_) (v:=?_) (by rfl) rfl ?_ ?_
               rotate_left 2
               ·go_simp
                constructor
                ·rfl
                ·rfl
               clear hx
               refine hK.out _ _ trivial (fun hHeld=>?_)
               clear hK K
               refine norm_ (a':=?_) ?_ ?_
               rotate_left
               ·show Act.put _ (some 41) _ = _
                simp only [Act.put,sA,sB,sC,i64_w,i32_w]
                rfl
               exact norm_ (by (simp only [putAll,Act.put,sA,sB,sC];done)) (hJ0_2_5_7_9_11 (adA_,cA_,adB_,cB_) _ ⟨HP.out,HG.out,HA.out⟩)
            ·skip
             rintro ⟨adA_,cA_,adB_,cB_⟩ w0_2_5_7_9_ ⟨hP_,hG_,hHA_⟩
             have HP:Aside0 (PaS w gd raw (rollU raw (rollU raw u3)) v5 out w0_2_5_7_9_):=⟨hP_⟩
             have HG:Aside0 (w0_2_5_7_9_.heap[g]? = some (.cells #[.int .i64 (1 + (i:Int) * 2 + a),.int .i64 site,.int .i64 0,.int .i64 (1 + b),.int .i64 0,.string ⟨#[]⟩,.string ⟨#[]⟩,.string ⟨#[]⟩] 128 (0,0))):=⟨hG_⟩
             have HA:Aside0 (Kd.R Kd.string 9 w0_2_5_7_9_ w.heap.size (fun _=>True) (.slice (some adA_) 2 cA_) ([⟨#[120]⟩,⟨#[121]⟩]:List ByteArray)):=⟨hHA_⟩
             clear hP_ hG_ hHA_
             have hHeld:True:=trivial
             refine norm_ (a':=?_) ?_ ?_
             rotate_left
             ·simp only [putAll,Act.put,sA,sB,sC]
              rfl
             refine two_ (i:=4) (j:=11) (Ni:=some 36) (Nj:=none) (bm 2047 16) (bm 4079 16) rfl rfl rfl rfl (by kernel_rfl) (by decide) (by decide) (fun K hK=>?_) (fun K hK=>?_)
             ·skip
              obtain ⟨ad',e_,hx⟩:=Kd.at_string (Kd.R_reads' HA.out).2.2 d HBd.out.1 (by have:=HBd.out.2;simp only [List.length_cons,List.length_nil];omega)
              cases e_
              replace hx:_ = some (Value.string (xyS d)):=hx
              refine value_ (w1:=?_) (v:=?_) (by rfl) rfl ?_ ?_
              rotate_left 2
              ·go_simp
               constructor
               ·rfl
               ·rfl
              clear hx
              refine hK.out _ _ trivial (fun hHeld=>?_)
              clear hK K
              refine norm_ (a':=?_) ?_ ?_
              rotate_left
              ·show Act.put _ (some 36) _ = _
               simp only [Act.put,sA,sB,sC,i64_w,i32_w]
               rfl
              exact norm_ (by (simp only [putAll,Act.put,sA,sB,sC];done)) (hJ0_2_4_5_7_9 (adA_,cA_,adB_,cB_) _ ⟨HP.out,HG.out⟩)
             ·skip
              have hs_:=(blk_cell HG.out 2).trans rfl
              have hf_:=blk_frozen HG.out 2
              refine skip_ (w1:=?_) (by rfl) rfl ?_ ?_
              rotate_left
              ·go_simp
               rfl
              have HG0:=HG
              have HG:=Aside0.mk (blk_put HG.out 2 (.int .i64 1) #[.int .i64 (1 + (i:Int) * 2 + a),.int .i64 site,.int .i64 1,.int .i64 (1 + b),.int .i64 0,.string ⟨#[]⟩,.string ⟨#[]⟩,.string ⟨#[]⟩] rfl)
              have HP:=Aside0.mk (HP.out.set HG0.out HGL.out HGN.out 2 (.int .i64 1))
              have HA:=Aside0.mk (strR_set HA.out HG0.out (by decide) 2 (.int .i64 1))
              clear HG0 hs_ hf_
              refine hK.out _ _ trivial (fun hHeld=>?_)
              clear hK K
              exact norm_ (by (simp only [putAll,Act.put,sA,sB,sC];done)) (hJ0_2_5_7_9_11 (adA_,cA_,adB_,cB_) _ ⟨HP.out,HG.out,HA.out⟩)
           ·skip
            rintro ⟨adA_,cA_⟩ w0_2_4_7_11_ ⟨hP_,hG_⟩
            have HP:Aside0 (PaS w gd raw (rollU raw (rollU raw u3)) v5 out w0_2_4_7_11_):=⟨hP_⟩
            have HG:Aside0 (w0_2_4_7_11_.heap[g]? = some (.cells #[.int .i64 (1 + (i:Int) * 2 + a),.int .i64 site,.int .i64 1,.int .i64 (1 + b),.int .i64 0,.string ⟨#[]⟩,.string ⟨#[]⟩,.string ⟨#[]⟩] 128 (0,0))):=⟨hG_⟩
            clear hP_ hG_
            have hHeld:True:=trivial
            refine norm_ (a':=?_) ?_ ?_
            rotate_left
            ·simp only [putAll,Act.put,sA,sB,sC]
             rfl
            refine two_ (i:=5) (j:=13) (Ni:=some 37) (Nj:=none) (bm 7423 16) (bm 15583 16) rfl rfl rfl rfl (by kernel_rfl) (by decide) (by decide) (fun K hK=>?_) (fun K hK=>?_)
            ·skip
             refine Kd.R_lit_step Kd.string (w0:=w) w.heap.size 9 (by rfl) (N:=37) rfl (xs:=([⟨#[]⟩,⟨#[49]⟩,⟨#[50]⟩]:List ByteArray)) (inner:=[.string ⟨#[]⟩,.string ⟨#[49]⟩,.string ⟨#[50]⟩]) (ok:=fun _=>True) (okp:=fun _=>True) ?hr ?hp (fun _ hk=>hk) trivial HP.out.bel HP.out.size (by simp) ?_
             case hr=>(go_simp;done)
             case hp=>exact Reps.one rfl (Reps.one rfl (Reps.one rfl (Reps.none _ _)))
             intro v_ w_ hR hB hg hn
             obtain ⟨adB_,cB_,e_⟩:=strR_ad hR (by decide)
             subst e_
             have HB:Aside0 (Kd.R Kd.string 9 w_ w.heap.size (fun _=>True) (.slice (some adB_) 3 cB_) ([⟨#[]⟩,⟨#[49]⟩,⟨#[50]⟩]:List ByteArray)):=⟨hR⟩
             have hbl:=grown_below hg
             have HG:=Aside0.mk ((hbl.block g (blk_lt HG.out)).trans HG.out)
             have HP:=Aside0.mk (HP.out.below hbl)
             clear hR hB hg hn hbl
             refine hK.out _ _ trivial (fun hHeld=>?_)
             clear hK K
             refine norm_ (a':=?_) ?_ ?_
             rotate_left
             ·show Act.put _ (some 37) _ = _
              simp only [Act.put,sA,sB,sC,i64_w,i32_w]
              rfl
             refine pure_ (i:=8) (N:=some 40) (v:=?_) (a':=?_) (bm 7679 16) rfl rfl (by kernel_rfl) (fun _ _ _ h=>h) (Or.inl ⟨by rfl,?_⟩) ?_ ?_
             rotate_left
             ·intro w'
              go_simp
              with_reducible rfl
             rotate_left
             ·simp only [Act.put,sA,sB,sC,i64_w,i32_w]
              rfl
             exact norm_ (by (simp only [putAll,Act.put,sA,sB,sC];rfl)) (hJ0_2_4_5_7_11 (adA_,cA_,adB_,cB_) _ ⟨HP.out,HG.out,HB.out⟩)
            ·skip
             have hs_:=(blk_cell HG.out 6).trans rfl
             have hf_:=blk_frozen HG.out 6
             refine skip_ (w1:=?_) (by rfl) rfl ?_ ?_
             rotate_left
             ·go_simp
              rfl
             have HG0:=HG
             have HG:=Aside0.mk (blk_put HG.out 6 (.string (xyS d)) #[.int .i64 (1 + (i:Int) * 2 + a),.int .i64 site,.int .i64 1,.int .i64 (1 + b),.int .i64 0,.string ⟨#[]⟩,.string (xyS d),.string ⟨#[]⟩] rfl)
             have HP:=Aside0.mk (HP.out.set HG0.out HGL.out HGN.out 6 (.string (xyS d)))
             clear HG0 hs_ hf_
             refine hK.out _ _ trivial (fun hHeld=>?_)
             clear hK K
             exact norm_ (by (simp only [putAll,Act.put,sA,sB,sC];done)) (hJ0_2_4_7_11_13 (adA_,cA_) _ ⟨HP.out,HG.out⟩)
          ·skip
           rintro ⟨adA_,cA_,adB_,cB_⟩ w0_2_4_5_7_ ⟨hP_,hG_,hHB_⟩
           have HP:Aside0 (PaS w gd raw (rollU raw (rollU raw u3)) v5 out w0_2_4_5_7_):=⟨hP_⟩
           have HG:Aside0 (w0_2_4_5_7_.heap[g]? = some (.cells #[.int .i64 (1 + (i:Int) * 2 + a),.int .i64 site,.int .i64 0,.int .i64 (1 + b),.int .i64 0,.string ⟨#[]⟩,.string ⟨#[]⟩,.string ⟨#[]⟩] 128 (0,0))):=⟨hG_⟩
           have HB:Aside0 (Kd.R Kd.string 9 w0_2_4_5_7_ w.heap.size (fun _=>True) (.slice (some adB_) 3 cB_) ([⟨#[]⟩,⟨#[49]⟩,⟨#[50]⟩]:List ByteArray)):=⟨hHB_⟩
           clear hP_ hG_ hHB_
           have hHeld:True:=trivial
           refine norm_ (a':=?_) ?_ ?_
           rotate_left
           ·simp only [putAll,Act.put,sA,sB,sC]
            rfl
           refine two_ (i:=9) (j:=11) (Ni:=some 41) (Nj:=none) (bm 2047 16) (bm 3583 16) rfl rfl rfl rfl (by kernel_rfl) (by decide) (by decide) (fun K hK=>?_) (fun K hK=>?_)
           ·skip
            obtain ⟨ad',e_,hx⟩:=Kd.at_string (Kd.R_reads' HB.out).2.2 e HBe.out.1 (by have:=HBe.out.2;simp only [List.length_cons,List.length_nil];omega)
            cases e_
            replace hx:_ = some (Value.string (noS e)):=hx
            refine value_ (w1:=?_) (v:=?_) (by rfl) rfl ?_ ?_
            rotate_left 2
            ·go_simp
             constructor
             ·rfl
             ·rfl
            clear hx
            refine hK.out _ _ trivial (fun hHeld=>?_)
            clear hK K
            refine norm_ (a':=?_) ?_ ?_
            rotate_left
            ·show Act.put _ (some 41) _ = _
             simp only [Act.put,sA,sB,sC,i64_w,i32_w]
             rfl
            exact norm_ (by (simp only [putAll,Act.put,sA,sB,sC];done)) (hJ0_2_4_5_7_9 (adA_,cA_,adB_,cB_) _ ⟨HP.out,HG.out⟩)
           ·skip
            have hs_:=(blk_cell HG.out 2).trans rfl
            have hf_:=blk_frozen HG.out 2
            refine skip_ (w1:=?_) (by rfl) rfl ?_ ?_
            rotate_left
            ·go_simp
             rfl
            have HG0:=HG
            have HG:=Aside0.mk (blk_put HG.out 2 (.int .i64 1) #[.int .i64 (1 + (i:Int) * 2 + a),.int .i64 site,.int .i64 1,.int .i64 (1 + b),.int .i64 0,.string ⟨#[]⟩,.string ⟨#[]⟩,.string ⟨#[]⟩] rfl)
            have HP:=Aside0.mk (HP.out.set HG0.out HGL.out HGN.out 2 (.int .i64 1))
            have HB:=Aside0.mk (strR_set HB.out HG0.out (by decide) 2 (.int .i64 1))
            clear HG0 hs_ hf_
            refine hK.out _ _ trivial (fun hHeld=>?_)
            clear hK K
            refine pure_ (i:=12) (N:=some 43) (v:=?_) (a':=?_) (bm 7679 16) rfl rfl (by kernel_rfl) (fun _ _ _ h=>h) (Or.inl ⟨by rfl,?_⟩) ?_ ?_
            rotate_left
            ·intro w'
             go_simp
             with_reducible rfl
            rotate_left
            ·simp only [Act.put,sA,sB,sC,i64_w,i32_w]
             rfl
            exact norm_ (by (simp only [putAll,Act.put,sA,sB,sC];done)) (hJ0_2_4_5_7_11 (adA_,cA_,adB_,cB_) _ ⟨HP.out,HG.out,HB.out⟩)
         ·skip
          rintro ⟨adA_,cA_,adB_,cB_⟩ w0_2_5_7_9_11_ ⟨hP_,hG_,hHA_⟩
          have HP:Aside0 (PaS w gd raw (rollU raw (rollU raw u3)) v5 out w0_2_5_7_9_11_):=⟨hP_⟩
          have HG:Aside0 (w0_2_5_7_9_11_.heap[g]? = some (.cells #[.int .i64 (1 + (i:Int) * 2 + a),.int .i64 site,.int .i64 1,.int .i64 (1 + b),.int .i64 0,.string ⟨#[]⟩,.string ⟨#[]⟩,.string ⟨#[]⟩] 128 (0,0))):=⟨hG_⟩
          have HA:Aside0 (Kd.R Kd.string 9 w0_2_5_7_9_11_ w.heap.size (fun _=>True) (.slice (some adA_) 2 cA_) ([⟨#[120]⟩,⟨#[121]⟩]:List ByteArray)):=⟨hHA_⟩
          clear hP_ hG_ hHA_
          have hHeld:True:=trivial
          refine norm_ (a':=?_) ?_ ?_
          rotate_left
          ·simp only [putAll,Act.put,sA,sB,sC]
           rfl
          refine one_ (i:=4) (N:=some 36) (bm 4095 16) rfl rfl (by kernel_rfl) (by decide) (fun K hK=>?_)
          obtain ⟨ad',e_,hx⟩:=Kd.at_string (Kd.R_reads' HA.out).2.2 d HBd.out.1 (by have:=HBd.out.2;simp only [List.length_cons,List.length_nil];omega)
          cases e_
          replace hx:_ = some (Value.string (xyS d)):=hx
          refine value_ (w1:=?_) (v:=?_) (by rfl) rfl ?_ ?_
          rotate_left 2
          ·go_simp
           constructor
           ·rfl
           ·rfl
          clear hx
          refine hK.out _ _ trivial (fun hHeld=>?_)
          clear hK K
          refine norm_ (a':=?_) ?_ ?_
          rotate_left
          ·show Act.put _ (some 36) _ = _
           simp only [Act.put,sA,sB,sC,i64_w,i32_w]
           rfl
          refine pure_ (i:=12) (N:=some 43) (v:=?_) (a':=?_) (bm 8191 16) rfl rfl (by kernel_rfl) (fun _ _ _ h=>h) (Or.inl ⟨by rfl,?_⟩) ?_ ?_
          rotate_left
          ·intro w'
           go_simp
           with_reducible rfl
          rotate_left
          ·simp only [Act.put,sA,sB,sC,i64_w,i32_w]
           rfl
          exact norm_ (by (simp only [putAll,Act.put,sA,sB,sC];done)) (hJ0_2_4_5_7_9_11 (adA_,cA_,adB_,cB_) _ ⟨HP.out,HG.out⟩)
        ·skip
         rintro ⟨adA_,cA_⟩ w0_2_4_7_11_13_ ⟨hP_,hG_⟩
         have HP:Aside0 (PaS w gd raw (rollU raw (rollU raw u3)) v5 out w0_2_4_7_11_13_):=⟨hP_⟩
         have HG:Aside0 (w0_2_4_7_11_13_.heap[g]? = some (.cells #[.int .i64 (1 + (i:Int) * 2 + a),.int .i64 site,.int .i64 1,.int .i64 (1 + b),.int .i64 0,.string ⟨#[]⟩,.string (xyS d),.string ⟨#[]⟩] 128 (0,0))):=⟨hG_⟩
         clear hP_ hG_
         have hHeld:True:=trivial
         refine norm_ (a':=?_) ?_ ?_
         rotate_left
         ·simp only [putAll,Act.put,sA,sB,sC]
          rfl
         refine one_ (i:=5) (N:=some 37) (bm 15615 16) rfl rfl (by kernel_rfl) (by decide) (fun K hK=>?_)
         refine Kd.R_lit_step Kd.string (w0:=w) w.heap.size 9 (by rfl) (N:=37) rfl (xs:=([⟨#[]⟩,⟨#[49]⟩,⟨#[50]⟩]:List ByteArray)) (inner:=[.string ⟨#[]⟩,.string ⟨#[49]⟩,.string ⟨#[50]⟩]) (ok:=fun _=>True) (okp:=fun _=>True) ?hr ?hp (fun _ hk=>hk) trivial HP.out.bel HP.out.size (by simp) ?_
         case hr=>(go_simp;done)
         case hp=>exact Reps.one rfl (Reps.one rfl (Reps.one rfl (Reps.none _ _)))
         intro v_ w_ hR hB hg hn
         obtain ⟨adB_,cB_,e_⟩:=strR_ad hR (by decide)
         subst e_
         have HB:Aside0 (Kd.R Kd.string 9 w_ w.heap.size (fun _=>True) (.slice (some adB_) 3 cB_) ([⟨#[]⟩,⟨#[49]⟩,⟨#[50]⟩]:List ByteArray)):=⟨hR⟩
         have hbl:=grown_below hg
         have HG:=Aside0.mk ((hbl.block g (blk_lt HG.out)).trans HG.out)
         have HP:=Aside0.mk (HP.out.below hbl)
         clear hR hB hg hn hbl
         refine hK.out _ _ trivial (fun hHeld=>?_)
         clear hK K
         refine norm_ (a':=?_) ?_ ?_
         rotate_left
         ·show Act.put _ (some 37) _ = _
          simp only [Act.put,sA,sB,sC,i64_w,i32_w]
          rfl
         refine pure_ (i:=8) (N:=some 40) (v:=?_) (a':=?_) (bm 15871 16) rfl rfl (by kernel_rfl) (fun _ _ _ h=>h) (Or.inl ⟨by rfl,?_⟩) ?_ ?_
         rotate_left
         ·intro w'
          go_simp
          with_reducible rfl
         rotate_left
         ·simp only [Act.put,sA,sB,sC,i64_w,i32_w]
          rfl
         exact norm_ (by (simp only [putAll,Act.put,sA,sB,sC];rfl)) (hJ0_2_4_5_7_11_13 (adA_,cA_,adB_,cB_) _ ⟨HP.out,HG.out,HB.out⟩)
       ·skip
        rintro ⟨adA_,cA_,adB_,cB_⟩ w0_2_4_5_7_11_ ⟨hP_,hG_,hHB_⟩
        have HP:Aside0 (PaS w gd raw (rollU raw (rollU raw u3)) v5 out w0_2_4_5_7_11_):=⟨hP_⟩
        have HG:Aside0 (w0_2_4_5_7_11_.heap[g]? = some (.cells #[.int .i64 (1 + (i:Int) * 2 + a),.int .i64 site,.int .i64 1,.int .i64 (1 + b),.int .i64 0,.string ⟨#[]⟩,.string ⟨#[]⟩,.string ⟨#[]⟩] 128 (0,0))):=⟨hG_⟩
        have HB:Aside0 (Kd.R Kd.string 9 w0_2_4_5_7_11_ w.heap.size (fun _=>True) (.slice (some adB_) 3 cB_) ([⟨#[]⟩,⟨#[49]⟩,⟨#[50]⟩]:List ByteArray)):=⟨hHB_⟩
        clear hP_ hG_ hHB_
        have hHeld:True:=trivial
        refine norm_ (a':=?_) ?_ ?_
        rotate_left
        ·simp only [putAll,Act.put,sA,sB,sC]
         rfl
        refine two_ (i:=9) (j:=13) (Ni:=some 41) (Nj:=none) (bm 8191 16) (bm 15871 16) rfl rfl rfl rfl (by kernel_rfl) (by decide) (by decide) (fun K hK=>?_) (fun K hK=>?_)
        ·skip
         obtain ⟨ad',e_,hx⟩:=Kd.at_string (Kd.R_reads' HB.out).2.2 e HBe.out.1 (by have:=HBe.out.2;simp only [List.length_cons,List.length_nil];omega)
         cases e_
         replace hx:_ = some (Value.string (noS e)):=hx
         refine value_ (w1:=?_) (v:=?_) (by rfl) rfl ?_ ?_
         rotate_left 2
         ·go_simp
          constructor
          ·rfl
          ·rfl
         clear hx
         refine hK.out _ _ trivial (fun hHeld=>?_)
         clear hK K
         refine norm_ (a':=?_) ?_ ?_
         rotate_left
         ·show Act.put _ (some 41) _ = _
          simp only [Act.put,sA,sB,sC,i64_w,i32_w]
          rfl
         exact norm_ (by (simp only [putAll,Act.put,sA,sB,sC];done)) (hJ0_2_4_5_7_9_11 (adA_,cA_,adB_,cB_) _ ⟨HP.out,HG.out⟩)
        ·skip
         have hs_:=(blk_cell HG.out 6).trans rfl
         have hf_:=blk_frozen HG.out 6
         refine skip_ (w1:=?_) (by rfl) rfl ?_ ?_
         rotate_left
         ·go_simp
          rfl
         have HG0:=HG
         have HG:=Aside0.mk (blk_put HG.out 6 (.string (xyS d)) #[.int .i64 (1 + (i:Int) * 2 + a),.int .i64 site,.int .i64 1,.int .i64 (1 + b),.int .i64 0,.string ⟨#[]⟩,.string (xyS d),.string ⟨#[]⟩] rfl)
         have HP:=Aside0.mk (HP.out.set HG0.out HGL.out HGN.out 6 (.string (xyS d)))
         have HB:=Aside0.mk (strR_set HB.out HG0.out (by decide) 6 (.string (xyS d)))
         clear HG0 hs_ hf_
         refine hK.out _ _ trivial (fun hHeld=>?_)
         clear hK K
         exact norm_ (by (simp only [putAll,Act.put,sA,sB,sC];done)) (hJ0_2_4_5_7_11_13 (adA_,cA_,adB_,cB_) _ ⟨HP.out,HG.out,HB.out⟩)
      ·skip
       rintro ⟨adA_,cA_,adB_,cB_⟩ w0_2_4_5_7_9_ ⟨hP_,hG_⟩
       have HP:Aside0 (PaS w gd raw (rollU raw (rollU raw u3)) v5 out w0_2_4_5_7_9_):=⟨hP_⟩
       have HG:Aside0 (w0_2_4_5_7_9_.heap[g]? = some (.cells #[.int .i64 (1 + (i:Int) * 2 + a),.int .i64 site,.int .i64 0,.int .i64 (1 + b),.int .i64 0,.string ⟨#[]⟩,.string ⟨#[]⟩,.string ⟨#[]⟩] 128 (0,0))):=⟨hG_⟩
       clear hP_ hG_
       have hHeld:True:=trivial
       refine norm_ (a':=?_) ?_ ?_
       rotate_left
       ·simp only [putAll,Act.put,sA,sB,sC]
        rfl
       refine one_ (i:=11) (N:=none) (bm 4095 16) rfl rfl (by kernel_rfl) (by decide) (fun K hK=>?_)
       have hs_:=(blk_cell HG.out 2).trans rfl
       have hf_:=blk_frozen HG.out 2
       refine skip_ (w1:=?_) (by rfl) rfl ?_ ?_
       rotate_left
       ·go_simp
        rfl
       have HG0:=HG
       have HG:=Aside0.mk (blk_put HG.out 2 (.int .i64 1) #[.int .i64 (1 + (i:Int) * 2 + a),.int .i64 site,.int .i64 1,.int .i64 (1 + b),.int .i64 0,.string ⟨#[]⟩,.string ⟨#[]⟩,.string ⟨#[]⟩] rfl)
       have HP:=Aside0.mk (HP.out.set HG0.out HGL.out HGN.out 2 (.int .i64 1))
       clear HG0 hs_ hf_
       refine hK.out _ _ trivial (fun hHeld=>?_)
       clear hK K
       refine pure_ (i:=12) (N:=some 43) (v:=?_) (a':=?_) (bm 8191 16) rfl rfl (by kernel_rfl) (fun _ _ _ h=>h) (Or.inl ⟨by rfl,?_⟩) ?_ ?_
       rotate_left
       ·intro w'
        go_simp
        with_reducible rfl
       rotate_left
       ·simp only [Act.put,sA,sB,sC,i64_w,i32_w]
        rfl
       exact norm_ (by (simp only [putAll,Act.put,sA,sB,sC];done)) (hJ0_2_4_5_7_9_11 (adA_,cA_,adB_,cB_) _ ⟨HP.out,HG.out⟩)
     ·skip
      rintro ⟨adA_,cA_,adB_,cB_⟩ w0_2_4_5_7_11_13_ ⟨hP_,hG_,hHB_⟩
      have HP:Aside0 (PaS w gd raw (rollU raw (rollU raw u3)) v5 out w0_2_4_5_7_11_13_):=⟨hP_⟩
      have HG:Aside0 (w0_2_4_5_7_11_13_.heap[g]? = some (.cells #[.int .i64 (1 + (i:Int) * 2 + a),.int .i64 site,.int .i64 1,.int .i64 (1 + b),.int .i64 0,.string ⟨#[]⟩,.string (xyS d),.string ⟨#[]⟩] 128 (0,0))):=⟨hG_⟩
      have HB:Aside0 (Kd.R Kd.string 9 w0_2_4_5_7_11_13_ w.heap.size (fun _=>True) (.slice (some adB_) 3 cB_) ([⟨#[]⟩,⟨#[49]⟩,⟨#[50]⟩]:List ByteArray)):=⟨hHB_⟩
      clear hP_ hG_ hHB_
      have hHeld:True:=trivial
      refine norm_ (a':=?_) ?_ ?_
      rotate_left
      ·simp only [putAll,Act.put,sA,sB,sC]
       rfl
      refine one_ (i:=9) (N:=some 41) (bm 16383 16) rfl rfl (by kernel_rfl) (by decide) (fun K hK=>?_)
      obtain ⟨ad',e_,hx⟩:=Kd.at_string (Kd.R_reads' HB.out).2.2 e HBe.out.1 (by have:=HBe.out.2;simp only [List.length_cons,List.length_nil];omega)
      cases e_
      replace hx:_ = some (Value.string (noS e)):=hx
      refine value_ (w1:=?_) (v:=?_) (by rfl) rfl ?_ ?_
      rotate_left 2
      ·go_simp
       constructor
       ·rfl
       ·rfl
      clear hx
      refine hK.out _ _ trivial (fun hHeld=>?_)
      clear hK K
      refine norm_ (a':=?_) ?_ ?_
      rotate_left
      ·show Act.put _ (some 41) _ = _
       simp only [Act.put,sA,sB,sC,i64_w,i32_w]
       rfl
      exact norm_ (by (simp only [putAll,Act.put,sA,sB,sC];done)) (hJ0_2_4_5_7_9_11_13 (adA_,cA_,adB_,cB_) _ ⟨HP.out,HG.out⟩)
    ·skip
     rintro ⟨adA_,cA_,adB_,cB_⟩ w0_2_4_5_7_9_11_ ⟨hP_,hG_⟩
     have HP:Aside0 (PaS w gd raw (rollU raw (rollU raw u3)) v5 out w0_2_4_5_7_9_11_):=⟨hP_⟩
     have HG:Aside0 (w0_2_4_5_7_9_11_.heap[g]? = some (.cells #[.int .i64 (1 + (i:Int) * 2 + a),.int .i64 site,.int .i64 1,.int .i64 (1 + b),.int .i64 0,.string ⟨#[]⟩,.string ⟨#[]⟩,.string ⟨#[]⟩] 128 (0,0))):=⟨hG_⟩
     clear hP_ hG_
     have hHeld:True:=trivial
     refine norm_ (a':=?_) ?_ ?_
     rotate_left
     ·simp only [putAll,Act.put,sA,sB,sC]
      rfl
     refine one_ (i:=13) (N:=none) (bm 16383 16) rfl rfl (by kernel_rfl) (by decide) (fun K hK=>?_)
     have hs_:=(blk_cell HG.out 6).trans rfl
     have hf_:=blk_frozen HG.out 6
     refine skip_ (w1:=?_) (by rfl) rfl ?_ ?_
     rotate_left
     ·go_simp
      rfl
     have HG0:=HG
     have HG:=Aside0.mk (blk_put HG.out 6 (.string (xyS d)) #[.int .i64 (1 + (i:Int) * 2 + a),.int .i64 site,.int .i64 1,.int .i64 (1 + b),.int .i64 0,.string ⟨#[]⟩,.string (xyS d),.string ⟨#[]⟩] rfl)
     have HP:=Aside0.mk (HP.out.set HG0.out HGL.out HGN.out 6 (.string (xyS d)))
     clear HG0 hs_ hf_
     refine hK.out _ _ trivial (fun hHeld=>?_)
     clear hK K
     exact norm_ (by (simp only [putAll,Act.put,sA,sB,sC];done)) (hJ0_2_4_5_7_9_11_13 (adA_,cA_,adB_,cB_) _ ⟨HP.out,HG.out⟩)
   rintro ⟨adA_,cA_,adB_,cB_⟩ w0_2_4_5_7_9_11_13_ ⟨hP_,hG_⟩
   have HP:Aside0 (PaS w gd raw (rollU raw (rollU raw u3)) v5 out w0_2_4_5_7_9_11_13_):=⟨hP_⟩
   have HG:Aside0 (w0_2_4_5_7_9_11_13_.heap[g]? = some (.cells #[.int .i64 (1 + (i:Int) * 2 + a),.int .i64 site,.int .i64 1,.int .i64 (1 + b),.int .i64 0,.string ⟨#[]⟩,.string (xyS d),.string ⟨#[]⟩] 128 (0,0))):=⟨hG_⟩
   clear hP_ hG_
   have hHeld:True:=trivial
   refine norm_ (a':=?_) ?_ ?_
   rotate_left
   ·simp only [putAll,Act.put,sA,sB,sC]
    rfl
   refine pure_ (i:=14) (N:=some 44) (v:=?_) (a':=?_) (bm 32767 16) rfl rfl (by kernel_rfl) (fun _ _ _ h=>h) (Or.inl ⟨by rfl,?_⟩) ?_ ?_
   rotate_left
   ·intro w'
    go_simp
    with_reducible rfl
   rotate_left
   ·simp only [Act.put,sA,sB,sC,i64_w,i32_w]
    rfl
   refine last_ (i:=15) (N:=none) (bm 65535 16) rfl rfl (by kernel_rfl) (by decide) (fun K hK=>?_)
   have hs_:=(blk_cell HG.out 7).trans rfl
   have hf_:=blk_frozen HG.out 7
   refine skip_ (w1:=?_) (by rfl) rfl ?_ ?_
   rotate_left
   ·go_simp
    rfl
   have HG0:=HG
   have HG:=Aside0.mk (blk_put HG.out 7 (.string (noS e)) #[.int .i64 (1 + (i:Int) * 2 + a),.int .i64 site,.int .i64 1,.int .i64 (1 + b),.int .i64 0,.string ⟨#[]⟩,.string (xyS d),.string (noS e)] rfl)
   have HP:=Aside0.mk (HP.out.set HG0.out HGL.out HGN.out 7 (.string (noS e)))
   clear HG0 hs_ hf_
   refine hK.out _ _ ?_
   clear hK K
   refine done_ (by kernel_rfl) ?_
   clear hHeld
   obtain ⟨w9,hw9⟩:∃ W,W = w0_2_4_5_7_9_11_13_.setCell ⟨g,7,none⟩ (.string (noS e)):=⟨_,rfl⟩
   rw [← hw9] at HP HG
   rw [← hw9]
   clear hw9
   have cg0:w9.cell? ⟨g,0,none⟩ = some (.int .i64 (1 + (i:Int) * 2 + a)):=(blk_cell HG.out 0).trans rfl
   have cg1:w9.cell? ⟨g,1,none⟩ = some (.int .i64 site):=(blk_cell HG.out 1).trans rfl
   have cg2:w9.cell? ⟨g,2,none⟩ = some (.int .i64 1):=(blk_cell HG.out 2).trans rfl
   have cg3:w9.cell? ⟨g,3,none⟩ = some (.int .i64 (1 + b)):=(blk_cell HG.out 3).trans rfl
   have cg4:w9.cell? ⟨g,4,none⟩ = some (.int .i64 0):=(blk_cell HG.out 4).trans rfl
   have cg5:w9.cell? ⟨g,5,none⟩ = some (.string ⟨#[]⟩):=(blk_cell HG.out 5).trans rfl
   have cg6:w9.cell? ⟨g,6,none⟩ = some (.string (xyS d)):=(blk_cell HG.out 6).trans rfl
   have cg7:w9.cell? ⟨g,7,none⟩ = some (.string (noS e)):=(blk_cell HG.out 7).trans rfl
   go_wp2_with (at_builtin;refine Kd.R_append k128 (w0:=w) (W:=w9) w.heap.size rfl (.tmp 55) (.tmp 57) 65 128 (.agg #[(.int .i64 0),(.int .i64 0),(.int .i64 0),(.int .i64 0),(.int .i64 0),(.string ⟨#[]⟩),(.string ⟨#[]⟩),(.string ⟨#[]⟩)]) 88 rfl Try.underlying65 info128 rfl (by decide) (by decide) v5 out ⟨1 + (i:Int) * 2 + a,site,1,1 + b,0,⟨#[]⟩,xyS d,noS e⟩ [.int .i64 (1 + (i:Int) * 2 + a),.int .i64 site,.int .i64 1,.int .i64 (1 + b),.int .i64 0,.string ⟨#[]⟩,.string (xyS d),.string (noS e)] (fun _=>True) (fun _=>False) rfl rfl (k128_mkM _ _ _ ⟨1 + (i:Int) * 2 + a,site,1,1 + b,0,⟨#[]⟩,xyS d,noS e⟩) (fun _ hk=>hk.elim) (fun _ _=>trivial) HP.out.row HP.out.bel HP.out.size (by have h1:=HI.out.2.2;have h2:=HNI.out;omega) ?_;intro vn wn hR hB hg ha;have HPN:=Aside0.mk (HP.out.append hR hB hg);clear hR hB hg ha HP HG)
   have wk:=HWK.out
   go_roundg gl
   case measure=>omega
   case rel=>exact ⟨i + 1,_,vn,_,rfl,by simp [wk],⟨⟨by have:=HI.out;omega,HU5.out,by rw [List.length_append,HI.out.2.2];rfl⟩⟩,HLX,HPN⟩
  ·have hpx:=HPX.out
   rw [if_neg d2] at hpx
   obtain ⟨d,hd,hpx⟩:=Option.bind_eq_some_iff.1 hpx
   obtain ⟨e,he,hpx⟩:=Option.bind_eq_some_iff.1 hpx
   obtain rfl:=Option.some.inj hpx
   obtain ⟨hd0,hd1⟩:=roll_range (by omega) (by omega) hd
   obtain ⟨he0,he1⟩:=roll_range (by omega) (by omega) he
   have HRd:=Aside0.mk hd
   have HRe:=Aside0.mk he
   have HBd:=Aside0.mk (And.intro hd0 hd1)
   have HBe:=Aside0.mk (And.intro he0 he1)
   have t1:(c == 0) = false:=by simpa using d2
   have w5k:IntKind.i64.wrap (d - 1) = d - 1:=by rw [i64_w];unfold wrap64;omega
   clear hpx hd he d2
   go_upto_region 9 with (go_at_call 40;(with_reducible refine (HP4.out.roll_calls HUc.out HRc.out).mono ?_);rintro e3 w5 ⟨rfl,hP,hfr,_⟩;have HP5:=Aside0.mk hP;have HG5:=Aside0.mk ((hfr g _ 128 (by decide) HG4.out).trans HG4.out);clear hP hfr)
   rw [HU3.out.1] at HP5
   have HP:=Aside0.mk HP5.out.drew
   have HG:=Aside0.mk (blk_drew HG5.out)
   clear HP4 HG4 HP5 HG5 HRc HUc
   refine start_ (n:=12) (S:=fun w'=>True) (ds:=[11]) #[false,false,false,false,false,false,false,false,false,false,false,false] (by kernel_rfl) rfl rfl trivial (fun hHeld=>?_)
   refine pure_ (i:=0) (N:=some 45) (v:=?_) (a':=?_) (bm 1 12) rfl rfl (by kernel_rfl) (fun _ _ _ h=>h) (Or.inl ⟨by rfl,?_⟩) ?_ ?_
   rotate_left
   ·intro w'
    go_simp
    with_reducible rfl
   rotate_left
   ·simp only [Act.put,sA,sB,sC,i64_w,i32_w]
    rfl
   refine pure_ (i:=4) (N:=some 49) (v:=?_) (a':=?_) (bm 17 12) rfl rfl (by kernel_rfl) (fun _ _ _ h=>h) (Or.inl ⟨by rfl,?_⟩) ?_ ?_
   rotate_left
   ·intro w'
    go_simp
    with_reducible rfl
   rotate_left
   ·simp only [Act.put,sA,sB,sC,i64_w,i32_w]
    rfl
   refine join_ (σ:=Addr × Nat) 2 (bm 1023 12) (fun s_=>[(46,.int .i64 d),(48,.slice (some s_.1) 3 s_.2),(50,.int .i64 e),(52,.string (plS e)),(47,.int .i64 (d - 1)),(51,.pointer (some (s_.1.add e.toNat))),(53,.pointer (some ⟨g,4,none⟩))]) (fun s_ w'=>(PaS w gd raw (rollU raw (rollU raw u3)) v5 out w') ∧ (w'.heap[g]? = some (.cells #[.int .i64 (1 + (i:Int) * 2 + a),.int .i64 site,.int .i64 0,.int .i64 (1 + b),.int .i64 (d - 1),.string ⟨#[]⟩,.string ⟨#[]⟩,.string ⟨#[]⟩] 128 (0,0)))) ?_ ?_
   rotate_left
   ·intro hJ1_3_5_7_9
    refine join_ (σ:=Addr × Nat) 3 (bm 511 12) (fun s_=>[(46,.int .i64 d),(48,.slice (some s_.1) 3 s_.2),(50,.int .i64 e),(52,.string (plS e)),(47,.int .i64 (d - 1)),(51,.pointer (some (s_.1.add e.toNat))),(53,.pointer (some ⟨g,4,none⟩))]) (fun s_ w'=>(PaS w gd raw (rollU raw (rollU raw u3)) v5 out w') ∧ (w'.heap[g]? = some (.cells #[.int .i64 (1 + (i:Int) * 2 + a),.int .i64 site,.int .i64 0,.int .i64 (1 + b),.int .i64 0,.string ⟨#[]⟩,.string ⟨#[]⟩,.string ⟨#[]⟩] 128 (0,0)))) ?_ ?_
    rotate_left
    ·intro hJ1_3_5_7
     refine join_ (σ:=Addr × Nat) 3 (bm 895 12) (fun s_=>[(46,.int .i64 d),(48,.slice (some s_.1) 3 s_.2),(50,.int .i64 e),(47,.int .i64 (d - 1)),(51,.pointer (some (s_.1.add e.toNat))),(53,.pointer (some ⟨g,4,none⟩))]) (fun s_ w'=>(PaS w gd raw (rollU raw (rollU raw u3)) v5 out w') ∧ (w'.heap[g]? = some (.cells #[.int .i64 (1 + (i:Int) * 2 + a),.int .i64 site,.int .i64 0,.int .i64 (1 + b),.int .i64 (d - 1),.string ⟨#[]⟩,.string ⟨#[]⟩,.string ⟨#[]⟩] 128 (0,0))) ∧ (Kd.R Kd.string 9 w' w.heap.size (fun _=>True) (.slice (some s_.1) 3 s_.2) ([⟨#[98]⟩,⟨#[99]⟩,⟨#[100]⟩]:List ByteArray))) ?_ ?_
     rotate_left
     ·intro hJ1_3_5_9
      refine join_ (σ:=Addr × Nat) 4 (bm 383 12) (fun s_=>[(46,.int .i64 d),(48,.slice (some s_.1) 3 s_.2),(50,.int .i64 e),(47,.int .i64 (d - 1)),(51,.pointer (some (s_.1.add e.toNat))),(53,.pointer (some ⟨g,4,none⟩))]) (fun s_ w'=>(PaS w gd raw (rollU raw (rollU raw u3)) v5 out w') ∧ (w'.heap[g]? = some (.cells #[.int .i64 (1 + (i:Int) * 2 + a),.int .i64 site,.int .i64 0,.int .i64 (1 + b),.int .i64 0,.string ⟨#[]⟩,.string ⟨#[]⟩,.string ⟨#[]⟩] 128 (0,0))) ∧ (Kd.R Kd.string 9 w' w.heap.size (fun _=>True) (.slice (some s_.1) 3 s_.2) ([⟨#[98]⟩,⟨#[99]⟩,⟨#[100]⟩]:List ByteArray))) ?_ ?_
      rotate_left
      ·intro hJ1_3_5
       refine join_ (σ:=Unit) 5 (bm 823 12) (fun s_=>[(46,.int .i64 d),(50,.int .i64 e),(47,.int .i64 (d - 1)),(53,.pointer (some ⟨g,4,none⟩))]) (fun s_ w'=>(PaS w gd raw (rollU raw (rollU raw u3)) v5 out w') ∧ (w'.heap[g]? = some (.cells #[.int .i64 (1 + (i:Int) * 2 + a),.int .i64 site,.int .i64 0,.int .i64 (1 + b),.int .i64 (d - 1),.string ⟨#[]⟩,.string ⟨#[]⟩,.string ⟨#[]⟩] 128 (0,0)))) ?_ ?_
       rotate_left
       ·intro hJ1_5_9
        refine join_ (σ:=Addr × Nat) 6 (bm 287 12) (fun s_=>[(46,.int .i64 d),(48,.slice (some s_.1) 3 s_.2),(47,.int .i64 (d - 1)),(53,.pointer (some ⟨g,4,none⟩))]) (fun s_ w'=>(PaS w gd raw (rollU raw u3) v5 out w') ∧ (w'.heap[g]? = some (.cells #[.int .i64 (1 + (i:Int) * 2 + a),.int .i64 site,.int .i64 0,.int .i64 (1 + b),.int .i64 0,.string ⟨#[]⟩,.string ⟨#[]⟩,.string ⟨#[]⟩] 128 (0,0))) ∧ (Kd.R Kd.string 9 w' w.heap.size (fun _=>True) (.slice (some s_.1) 3 s_.2) ([⟨#[98]⟩,⟨#[99]⟩,⟨#[100]⟩]:List ByteArray))) ?_ ?_
        rotate_left
        ·intro hJ1_3
         refine join_ (σ:=Unit) 6 (bm 311 12) (fun s_=>[(46,.int .i64 d),(50,.int .i64 e),(47,.int .i64 (d - 1)),(53,.pointer (some ⟨g,4,none⟩))]) (fun s_ w'=>(PaS w gd raw (rollU raw (rollU raw u3)) v5 out w') ∧ (w'.heap[g]? = some (.cells #[.int .i64 (1 + (i:Int) * 2 + a),.int .i64 site,.int .i64 0,.int .i64 (1 + b),.int .i64 0,.string ⟨#[]⟩,.string ⟨#[]⟩,.string ⟨#[]⟩] 128 (0,0)))) ?_ ?_
         rotate_left
         ·intro hJ1_5
          refine join_ (σ:=Unit) 7 (bm 279 12) (fun s_=>[(46,.int .i64 d),(47,.int .i64 (d - 1)),(53,.pointer (some ⟨g,4,none⟩))]) (fun s_ w'=>(PaS w gd raw (rollU raw u3) v5 out w') ∧ (w'.heap[g]? = some (.cells #[.int .i64 (1 + (i:Int) * 2 + a),.int .i64 site,.int .i64 0,.int .i64 (1 + b),.int .i64 0,.string ⟨#[]⟩,.string ⟨#[]⟩,.string ⟨#[]⟩] 128 (0,0)))) ?_ ?_
          rotate_left
          ·intro hJ1
           refine join_ (σ:=Addr × Nat) 9 (bm 25 12) (fun s_=>[(48,.slice (some s_.1) 3 s_.2)]) (fun s_ w'=>(PaS w gd raw u3 v5 out w') ∧ (w'.heap[g]? = some (.cells #[.int .i64 (1 + (i:Int) * 2 + a),.int .i64 site,.int .i64 0,.int .i64 (1 + b),.int .i64 0,.string ⟨#[]⟩,.string ⟨#[]⟩,.string ⟨#[]⟩] 128 (0,0))) ∧ (Kd.R Kd.string 9 w' w.heap.size (fun _=>True) (.slice (some s_.1) 3 s_.2) ([⟨#[98]⟩,⟨#[99]⟩,⟨#[100]⟩]:List ByteArray))) ?_ ?_
           rotate_left
           ·intro hJ3
            refine two_ (i:=1) (j:=3) (Ni:=some 46) (Nj:=some 48) (bm 19 12) (bm 25 12) rfl rfl rfl rfl (by kernel_rfl) (by decide) (by decide) (fun K hK=>?_) (fun K hK=>?_)
            ·skip
             refine goes_ Try.func40 (by kernel_rfl) rfl #[.pointer (some ⟨gd,0,none⟩),.int .i64 8] (by rfl) rfl rfl (by simp only [List.map_toArray,List.map_cons,List.map_nil];rfl) ?_
             with_reducible refine (HP.out.roll_calls HUd.out HRd.out).mono ?_
             rintro e w_ ⟨rfl,hP,hfr,hsz⟩
             refine ⟨_,rfl,?_⟩
             have HG:=Aside0.mk ((hfr g _ 128 (by decide) HG.out).trans HG.out)
             have HP:=Aside0.mk hP
             clear hP hfr hsz
             refine hK.out _ _ trivial (fun hHeld=>?_)
             clear hK K
             refine norm_ (a':=?_) ?_ ?_
             rotate_left
             ·show Act.put _ (some 46) _ = _
              simp only [Act.put,sA,sB,sC,i64_w,i32_w]
              rfl
             refine pure_ (i:=2) (N:=some 47) (v:=?_) (a':=?_) (bm 23 12) rfl rfl (by kernel_rfl) (fun _ _ _ h=>h) (Or.inl ⟨by rfl,?_⟩) ?_ ?_
             rotate_left
             ·intro w'
              go_simp
              with_reducible rfl
             rotate_left
             ·simp only [Act.put,sA,sB,sC,i64_w,i32_w]
              rfl
             refine pure_ (i:=8) (N:=some 53) (v:=?_) (a':=?_) (bm 279 12) rfl rfl (by kernel_rfl) (fun _ _ _ h=>h) (Or.inl ⟨by rfl,?_⟩) ?_ ?_
             rotate_left
             ·intro w'
              go_simp
              with_reducible rfl
             rotate_left
             ·simp only [Act.put,sA,sB,sC,i64_w,i32_w]
              rfl
             exact norm_ (by (simp only [putAll,Act.put,sA,sB,sC];done)) (hJ1 () _ ⟨HP.out,HG.out⟩)
            ·skip
             refine Kd.R_lit_step Kd.string (w0:=w) w.heap.size 9 (by rfl) (N:=48) rfl (xs:=([⟨#[98]⟩,⟨#[99]⟩,⟨#[100]⟩]:List ByteArray)) (inner:=[.string ⟨#[98]⟩,.string ⟨#[99]⟩,.string ⟨#[100]⟩]) (ok:=fun _=>True) (okp:=fun _=>True) ?hr ?hp (fun _ hk=>hk) trivial HP.out.bel HP.out.size (by simp) ?_
             case hr=>(go_simp;done)
             case hp=>exact Reps.one rfl (Reps.one rfl (Reps.one rfl (Reps.none _ _)))
             intro v_ w_ hR hB hg hn
             obtain ⟨adB_,cB_,e_⟩:=strR_ad hR (by decide)
             subst e_
             have HB:Aside0 (Kd.R Kd.string 9 w_ w.heap.size (fun _=>True) (.slice (some adB_) 3 cB_) ([⟨#[98]⟩,⟨#[99]⟩,⟨#[100]⟩]:List ByteArray)):=⟨hR⟩
             have hbl:=grown_below hg
             have HG:=Aside0.mk ((hbl.block g (blk_lt HG.out)).trans HG.out)
             have HP:=Aside0.mk (HP.out.below hbl)
             clear hR hB hg hn hbl
             refine hK.out _ _ trivial (fun hHeld=>?_)
             clear hK K
             refine norm_ (a':=?_) ?_ ?_
             rotate_left
             ·show Act.put _ (some 48) _ = _
              simp only [Act.put,sA,sB,sC,i64_w,i32_w]
              rfl
             exact norm_ (by (simp only [putAll,Act.put,sA,sB,sC];rfl)) (hJ3 (adB_,cB_) _ ⟨HP.out,HG.out,HB.out⟩)
           ·skip
            rintro ⟨adB_,cB_⟩ w3_ ⟨hP_,hG_,hHB_⟩
            have HP:Aside0 (PaS w gd raw u3 v5 out w3_):=⟨hP_⟩
            have HG:Aside0 (w3_.heap[g]? = some (.cells #[.int .i64 (1 + (i:Int) * 2 + a),.int .i64 site,.int .i64 0,.int .i64 (1 + b),.int .i64 0,.string ⟨#[]⟩,.string ⟨#[]⟩,.string ⟨#[]⟩] 128 (0,0))):=⟨hG_⟩
            have HB:Aside0 (Kd.R Kd.string 9 w3_ w.heap.size (fun _=>True) (.slice (some adB_) 3 cB_) ([⟨#[98]⟩,⟨#[99]⟩,⟨#[100]⟩]:List ByteArray)):=⟨hHB_⟩
            clear hP_ hG_ hHB_
            have hHeld:True:=trivial
            refine norm_ (a':=?_) ?_ ?_
            rotate_left
            ·simp only [putAll,Act.put,sA,sB,sC]
             rfl
            refine one_ (i:=1) (N:=some 46) (bm 27 12) rfl rfl (by kernel_rfl) (by decide) (fun K hK=>?_)
            refine goes_ Try.func40 (by kernel_rfl) rfl #[.pointer (some ⟨gd,0,none⟩),.int .i64 8] (by rfl) rfl rfl (by simp only [List.map_toArray,List.map_cons,List.map_nil];rfl) ?_
            with_reducible refine (HP.out.roll_calls HUd.out HRd.out).mono ?_
            rintro e w_ ⟨rfl,hP,hfr,hsz⟩
            refine ⟨_,rfl,?_⟩
            have HG:=Aside0.mk ((hfr g _ 128 (by decide) HG.out).trans HG.out)
            have HB:=Aside0.mk (strR_move HB.out (fun k cells hc=>hfr k cells 9 (by decide) hc))
            have HP:=Aside0.mk hP
            clear hP hfr hsz
            refine hK.out _ _ trivial (fun hHeld=>?_)
            clear hK K
            refine norm_ (a':=?_) ?_ ?_
            rotate_left
            ·show Act.put _ (some 46) _ = _
             simp only [Act.put,sA,sB,sC,i64_w,i32_w]
             rfl
            refine pure_ (i:=2) (N:=some 47) (v:=?_) (a':=?_) (bm 31 12) rfl rfl (by kernel_rfl) (fun _ _ _ h=>h) (Or.inl ⟨by rfl,?_⟩) ?_ ?_
            rotate_left
            ·intro w'
             go_simp
             with_reducible rfl
            rotate_left
            ·simp only [Act.put,sA,sB,sC,i64_w,i32_w]
             rfl
            refine pure_ (i:=8) (N:=some 53) (v:=?_) (a':=?_) (bm 287 12) rfl rfl (by kernel_rfl) (fun _ _ _ h=>h) (Or.inl ⟨by rfl,?_⟩) ?_ ?_
            rotate_left
            ·intro w'
             go_simp
             with_reducible rfl
            rotate_left
            ·simp only [Act.put,sA,sB,sC,i64_w,i32_w]
             rfl
            exact norm_ (by (simp only [putAll,Act.put,sA,sB,sC];done)) (hJ1_3 (adB_,cB_) _ ⟨HP.out,HG.out,HB.out⟩)
          ·skip
           rintro _ w1_ ⟨hP_,hG_⟩
           have HP:Aside0 (PaS w gd raw (rollU raw u3) v5 out w1_):=⟨hP_⟩
           have HG:Aside0 (w1_.heap[g]? = some (.cells #[.int .i64 (1 + (i:Int) * 2 + a),.int .i64 site,.int .i64 0,.int .i64 (1 + b),.int .i64 0,.string ⟨#[]⟩,.string ⟨#[]⟩,.string ⟨#[]⟩] 128 (0,0))):=⟨hG_⟩
           clear hP_ hG_
           have hHeld:True:=trivial
           refine norm_ (a':=?_) ?_ ?_
           rotate_left
           ·simp only [putAll,Act.put,sA,sB,sC]
            rfl
           refine two_ (i:=3) (j:=5) (Ni:=some 48) (Nj:=some 50) (bm 287 12) (bm 311 12) rfl rfl rfl rfl (by kernel_rfl) (by decide) (by decide) (fun K hK=>?_) (fun K hK=>?_)
           ·skip
            refine Kd.R_lit_step Kd.string (w0:=w) w.heap.size 9 (by rfl) (N:=48) rfl (xs:=([⟨#[98]⟩,⟨#[99]⟩,⟨#[100]⟩]:List ByteArray)) (inner:=[.string ⟨#[98]⟩,.string ⟨#[99]⟩,.string ⟨#[100]⟩]) (ok:=fun _=>True) (okp:=fun _=>True) ?hr ?hp (fun _ hk=>hk) trivial HP.out.bel HP.out.size (by simp) ?_
            case hr=>(go_simp;done)
            case hp=>exact Reps.one rfl (Reps.one rfl (Reps.one rfl (Reps.none _ _)))
            intro v_ w_ hR hB hg hn
            obtain ⟨adB_,cB_,e_⟩:=strR_ad hR (by decide)
            subst e_
            have HB:Aside0 (Kd.R Kd.string 9 w_ w.heap.size (fun _=>True) (.slice (some adB_) 3 cB_) ([⟨#[98]⟩,⟨#[99]⟩,⟨#[100]⟩]:List ByteArray)):=⟨hR⟩
            have hbl:=grown_below hg
            have HG:=Aside0.mk ((hbl.block g (blk_lt HG.out)).trans HG.out)
            have HP:=Aside0.mk (HP.out.below hbl)
            clear hR hB hg hn hbl
            refine hK.out _ _ trivial (fun hHeld=>?_)
            clear hK K
            refine norm_ (a':=?_) ?_ ?_
            rotate_left
            ·show Act.put _ (some 48) _ = _
             simp only [Act.put,sA,sB,sC,i64_w,i32_w]
             rfl
            exact norm_ (by (simp only [putAll,Act.put,sA,sB,sC];rfl)) (hJ1_3 (adB_,cB_) _ ⟨HP.out,HG.out,HB.out⟩)
           ·skip
            refine goes_ Try.func40 (by kernel_rfl) rfl #[.pointer (some ⟨gd,0,none⟩),.int .i64 3] (by rfl) rfl rfl (by simp only [List.map_toArray,List.map_cons,List.map_nil];rfl) ?_
            with_reducible refine (HP.out.roll_calls HUe.out HRe.out).mono ?_
            rintro e w_ ⟨rfl,hP,hfr,hsz⟩
            refine ⟨_,rfl,?_⟩
            have HG:=Aside0.mk ((hfr g _ 128 (by decide) HG.out).trans HG.out)
            have HP:=Aside0.mk hP
            clear hP hfr hsz
            refine hK.out _ _ trivial (fun hHeld=>?_)
            clear hK K
            refine norm_ (a':=?_) ?_ ?_
            rotate_left
            ·show Act.put _ (some 50) _ = _
             simp only [Act.put,sA,sB,sC,i64_w,i32_w]
             rfl
            exact norm_ (by (simp only [putAll,Act.put,sA,sB,sC];done)) (hJ1_5 () _ ⟨HP.out,HG.out⟩)
         ·skip
          rintro _ w1_5_ ⟨hP_,hG_⟩
          have HP:Aside0 (PaS w gd raw (rollU raw (rollU raw u3)) v5 out w1_5_):=⟨hP_⟩
          have HG:Aside0 (w1_5_.heap[g]? = some (.cells #[.int .i64 (1 + (i:Int) * 2 + a),.int .i64 site,.int .i64 0,.int .i64 (1 + b),.int .i64 0,.string ⟨#[]⟩,.string ⟨#[]⟩,.string ⟨#[]⟩] 128 (0,0))):=⟨hG_⟩
          clear hP_ hG_
          have hHeld:True:=trivial
          refine norm_ (a':=?_) ?_ ?_
          rotate_left
          ·simp only [putAll,Act.put,sA,sB,sC]
           rfl
          refine two_ (i:=3) (j:=9) (Ni:=some 48) (Nj:=none) (bm 319 12) (bm 823 12) rfl rfl rfl rfl (by kernel_rfl) (by decide) (by decide) (fun K hK=>?_) (fun K hK=>?_)
          ·skip
           refine Kd.R_lit_step Kd.string (w0:=w) w.heap.size 9 (by rfl) (N:=48) rfl (xs:=([⟨#[98]⟩,⟨#[99]⟩,⟨#[100]⟩]:List ByteArray)) (inner:=[.string ⟨#[98]⟩,.string ⟨#[99]⟩,.string ⟨#[100]⟩]) (ok:=fun _=>True) (okp:=fun _=>True) ?hr ?hp (fun _ hk=>hk) trivial HP.out.bel HP.out.size (by simp) ?_
           case hr=>(go_simp;done)
           case hp=>exact Reps.one rfl (Reps.one rfl (Reps.one rfl (Reps.none _ _)))
           intro v_ w_ hR hB hg hn
           obtain ⟨adB_,cB_,e_⟩:=strR_ad hR (by decide)
           subst e_
           have HB:Aside0 (Kd.R Kd.string 9 w_ w.heap.size (fun _=>True) (.slice (some adB_) 3 cB_) ([⟨#[98]⟩,⟨#[99]⟩,⟨#[100]⟩]:List ByteArray)):=⟨hR⟩
           have hbl:=grown_below hg
           have HG:=Aside0.mk ((hbl.block g (blk_lt HG.out)).trans HG.out)
           have HP:=Aside0.mk (HP.out.below hbl)
           clear hR hB hg hn hbl
           refine hK.out _ _ trivial (fun hHeld=>?_)
           clear hK K
           refine norm_ (a':=?_) ?_ ?_
           rotate_left
           ·show Act.put _ (some 48) _ = _
            simp only [Act.put,sA,sB,sC,i64_w,i32_w]
            rfl
           refine pure_ (i:=6) (N:=some 51) (v:=?_) (a':=?_) (bm 383 12) rfl rfl (by kernel_rfl) (fun _ _ _ h=>h) (Or.inl ⟨by rfl,?_⟩) ?_ ?_
           rotate_left
           ·intro w'
            go_simp
            with_reducible rfl
           rotate_left
           ·simp only [Act.put,sA,sB,sC,i64_w,i32_w]
            rfl
           exact norm_ (by (simp only [putAll,Act.put,sA,sB,sC];rfl)) (hJ1_3_5 (adB_,cB_) _ ⟨HP.out,HG.out,HB.out⟩)
          ·skip
           have hs_:=(blk_cell HG.out 4).trans rfl
           have hf_:=blk_frozen HG.out 4
           refine skip_ (w1:=?_) (by rfl) rfl ?_ ?_
           rotate_left
           ·go_simp
            rfl
           have HG0:=HG
           have HG:=Aside0.mk (blk_put HG.out 4 (.int .i64 (d - 1)) #[.int .i64 (1 + (i:Int) * 2 + a),.int .i64 site,.int .i64 0,.int .i64 (1 + b),.int .i64 (d - 1),.string ⟨#[]⟩,.string ⟨#[]⟩,.string ⟨#[]⟩] rfl)
           have HP:=Aside0.mk (HP.out.set HG0.out HGL.out HGN.out 4 (.int .i64 (d - 1)))
           clear HG0 hs_ hf_
           refine hK.out _ _ trivial (fun hHeld=>?_)
           clear hK K
           exact norm_ (by (simp only [putAll,Act.put,sA,sB,sC];done)) (hJ1_5_9 () _ ⟨HP.out,HG.out⟩)
        ·skip
         rintro ⟨adB_,cB_⟩ w1_3_ ⟨hP_,hG_,hHB_⟩
         have HP:Aside0 (PaS w gd raw (rollU raw u3) v5 out w1_3_):=⟨hP_⟩
         have HG:Aside0 (w1_3_.heap[g]? = some (.cells #[.int .i64 (1 + (i:Int) * 2 + a),.int .i64 site,.int .i64 0,.int .i64 (1 + b),.int .i64 0,.string ⟨#[]⟩,.string ⟨#[]⟩,.string ⟨#[]⟩] 128 (0,0))):=⟨hG_⟩
         have HB:Aside0 (Kd.R Kd.string 9 w1_3_ w.heap.size (fun _=>True) (.slice (some adB_) 3 cB_) ([⟨#[98]⟩,⟨#[99]⟩,⟨#[100]⟩]:List ByteArray)):=⟨hHB_⟩
         clear hP_ hG_ hHB_
         have hHeld:True:=trivial
         refine norm_ (a':=?_) ?_ ?_
         rotate_left
         ·simp only [putAll,Act.put,sA,sB,sC]
          rfl
         refine one_ (i:=5) (N:=some 50) (bm 319 12) rfl rfl (by kernel_rfl) (by decide) (fun K hK=>?_)
         refine goes_ Try.func40 (by kernel_rfl) rfl #[.pointer (some ⟨gd,0,none⟩),.int .i64 3] (by rfl) rfl rfl (by simp only [List.map_toArray,List.map_cons,List.map_nil];rfl) ?_
         with_reducible refine (HP.out.roll_calls HUe.out HRe.out).mono ?_
         rintro e w_ ⟨rfl,hP,hfr,hsz⟩
         refine ⟨_,rfl,?_⟩
         have HG:=Aside0.mk ((hfr g _ 128 (by decide) HG.out).trans HG.out)
         have HB:=Aside0.mk (strR_move HB.out (fun k cells hc=>hfr k cells 9 (by decide) hc))
         have HP:=Aside0.mk hP
         clear hP hfr hsz
         refine hK.out _ _ trivial (fun hHeld=>?_)
         clear hK K
         refine norm_ (a':=?_) ?_ ?_
         rotate_left
         ·show Act.put _ (some 50) _ = _
          simp only [Act.put,sA,sB,sC,i64_w,i32_w]
          rfl
         refine pure_ (i:=6) (N:=some 51) (v:=?_) (a':=?_) (bm 383 12) rfl rfl (by kernel_rfl) (fun _ _ _ h=>h) (Or.inl ⟨by rfl,?_⟩) ?_ ?_
         rotate_left
         ·intro w'
          go_simp
          with_reducible rfl
         rotate_left
         ·simp only [Act.put,sA,sB,sC,i64_w,i32_w]
          rfl
         exact norm_ (by (simp only [putAll,Act.put,sA,sB,sC];done)) (hJ1_3_5 (adB_,cB_) _ ⟨HP.out,HG.out,HB.out⟩)
       ·skip
        rintro _ w1_5_9_ ⟨hP_,hG_⟩
        have HP:Aside0 (PaS w gd raw (rollU raw (rollU raw u3)) v5 out w1_5_9_):=⟨hP_⟩
        have HG:Aside0 (w1_5_9_.heap[g]? = some (.cells #[.int .i64 (1 + (i:Int) * 2 + a),.int .i64 site,.int .i64 0,.int .i64 (1 + b),.int .i64 (d - 1),.string ⟨#[]⟩,.string ⟨#[]⟩,.string ⟨#[]⟩] 128 (0,0))):=⟨hG_⟩
        clear hP_ hG_
        have hHeld:True:=trivial
        refine norm_ (a':=?_) ?_ ?_
        rotate_left
        ·simp only [putAll,Act.put,sA,sB,sC]
         rfl
        refine one_ (i:=3) (N:=some 48) (bm 831 12) rfl rfl (by kernel_rfl) (by decide) (fun K hK=>?_)
        refine Kd.R_lit_step Kd.string (w0:=w) w.heap.size 9 (by rfl) (N:=48) rfl (xs:=([⟨#[98]⟩,⟨#[99]⟩,⟨#[100]⟩]:List ByteArray)) (inner:=[.string ⟨#[98]⟩,.string ⟨#[99]⟩,.string ⟨#[100]⟩]) (ok:=fun _=>True) (okp:=fun _=>True) ?hr ?hp (fun _ hk=>hk) trivial HP.out.bel HP.out.size (by simp) ?_
        case hr=>(go_simp;done)
        case hp=>exact Reps.one rfl (Reps.one rfl (Reps.one rfl (Reps.none _ _)))
        intro v_ w_ hR hB hg hn
        obtain ⟨adB_,cB_,e_⟩:=strR_ad hR (by decide)
        subst e_
        have HB:Aside0 (Kd.R Kd.string 9 w_ w.heap.size (fun _=>True) (.slice (some adB_) 3 cB_) ([⟨#[98]⟩,⟨#[99]⟩,⟨#[100]⟩]:List ByteArray)):=⟨hR⟩
        have hbl:=grown_below hg
        have HG:=Aside0.mk ((hbl.block g (blk_lt HG.out)).trans HG.out)
        have HP:=Aside0.mk (HP.out.below hbl)
        clear hR hB hg hn hbl
        refine hK.out _ _ trivial (fun hHeld=>?_)
        clear hK K
        refine norm_ (a':=?_) ?_ ?_
        rotate_left
        ·show Act.put _ (some 48) _ = _
         simp only [Act.put,sA,sB,sC,i64_w,i32_w]
         rfl
        refine pure_ (i:=6) (N:=some 51) (v:=?_) (a':=?_) (bm 895 12) rfl rfl (by kernel_rfl) (fun _ _ _ h=>h) (Or.inl ⟨by rfl,?_⟩) ?_ ?_
        rotate_left
        ·intro w'
         go_simp
         with_reducible rfl
        rotate_left
        ·simp only [Act.put,sA,sB,sC,i64_w,i32_w]
         rfl
        exact norm_ (by (simp only [putAll,Act.put,sA,sB,sC];rfl)) (hJ1_3_5_9 (adB_,cB_) _ ⟨HP.out,HG.out,HB.out⟩)
      ·skip
       rintro ⟨adB_,cB_⟩ w1_3_5_ ⟨hP_,hG_,hHB_⟩
       have HP:Aside0 (PaS w gd raw (rollU raw (rollU raw u3)) v5 out w1_3_5_):=⟨hP_⟩
       have HG:Aside0 (w1_3_5_.heap[g]? = some (.cells #[.int .i64 (1 + (i:Int) * 2 + a),.int .i64 site,.int .i64 0,.int .i64 (1 + b),.int .i64 0,.string ⟨#[]⟩,.string ⟨#[]⟩,.string ⟨#[]⟩] 128 (0,0))):=⟨hG_⟩
       have HB:Aside0 (Kd.R Kd.string 9 w1_3_5_ w.heap.size (fun _=>True) (.slice (some adB_) 3 cB_) ([⟨#[98]⟩,⟨#[99]⟩,⟨#[100]⟩]:List ByteArray)):=⟨hHB_⟩
       clear hP_ hG_ hHB_
       have hHeld:True:=trivial
       refine norm_ (a':=?_) ?_ ?_
       rotate_left
       ·simp only [putAll,Act.put,sA,sB,sC]
        rfl
       refine two_ (i:=7) (j:=9) (Ni:=some 52) (Nj:=none) (bm 511 12) (bm 895 12) rfl rfl rfl rfl (by kernel_rfl) (by decide) (by decide) (fun K hK=>?_) (fun K hK=>?_)
       ·skip
        obtain ⟨ad',e_,hx⟩:=Kd.at_string (Kd.R_reads' HB.out).2.2 e HBe.out.1 (by have:=HBe.out.2;simp only [List.length_cons,List.length_nil];omega)
        cases e_
        replace hx:_ = some (Value.string (plS e)):=hx
        refine value_ (w1:=?_) (v:=?_) (by rfl) rfl ?_ ?_
        rotate_left 2
        ·go_simp
         constructor
         ·rfl
         ·rfl
        clear hx
        refine hK.out _ _ trivial (fun hHeld=>?_)
        clear hK K
        refine norm_ (a':=?_) ?_ ?_
        rotate_left
        ·show Act.put _ (some 52) _ = _
         simp only [Act.put,sA,sB,sC,i64_w,i32_w]
         rfl
        exact norm_ (by (simp only [putAll,Act.put,sA,sB,sC];done)) (hJ1_3_5_7 (adB_,cB_) _ ⟨HP.out,HG.out⟩)
       ·skip
        have hs_:=(blk_cell HG.out 4).trans rfl
        have hf_:=blk_frozen HG.out 4
        refine skip_ (w1:=?_) (by rfl) rfl ?_ ?_
        rotate_left
        ·go_simp
         rfl
        have HG0:=HG
        have HG:=Aside0.mk (blk_put HG.out 4 (.int .i64 (d - 1)) #[.int .i64 (1 + (i:Int) * 2 + a),.int .i64 site,.int .i64 0,.int .i64 (1 + b),.int .i64 (d - 1),.string ⟨#[]⟩,.string ⟨#[]⟩,.string ⟨#[]⟩] rfl)
        have HP:=Aside0.mk (HP.out.set HG0.out HGL.out HGN.out 4 (.int .i64 (d - 1)))
        have HB:=Aside0.mk (strR_set HB.out HG0.out (by decide) 4 (.int .i64 (d - 1)))
        clear HG0 hs_ hf_
        refine hK.out _ _ trivial (fun hHeld=>?_)
        clear hK K
        exact norm_ (by (simp only [putAll,Act.put,sA,sB,sC];done)) (hJ1_3_5_9 (adB_,cB_) _ ⟨HP.out,HG.out,HB.out⟩)
     ·skip
      rintro ⟨adB_,cB_⟩ w1_3_5_9_ ⟨hP_,hG_,hHB_⟩
      have HP:Aside0 (PaS w gd raw (rollU raw (rollU raw u3)) v5 out w1_3_5_9_):=⟨hP_⟩
      have HG:Aside0 (w1_3_5_9_.heap[g]? = some (.cells #[.int .i64 (1 + (i:Int) * 2 + a),.int .i64 site,.int .i64 0,.int .i64 (1 + b),.int .i64 (d - 1),.string ⟨#[]⟩,.string ⟨#[]⟩,.string ⟨#[]⟩] 128 (0,0))):=⟨hG_⟩
      have HB:Aside0 (Kd.R Kd.string 9 w1_3_5_9_ w.heap.size (fun _=>True) (.slice (some adB_) 3 cB_) ([⟨#[98]⟩,⟨#[99]⟩,⟨#[100]⟩]:List ByteArray)):=⟨hHB_⟩
      clear hP_ hG_ hHB_
      have hHeld:True:=trivial
      refine norm_ (a':=?_) ?_ ?_
      rotate_left
      ·simp only [putAll,Act.put,sA,sB,sC]
       rfl
      refine one_ (i:=7) (N:=some 52) (bm 1023 12) rfl rfl (by kernel_rfl) (by decide) (fun K hK=>?_)
      obtain ⟨ad',e_,hx⟩:=Kd.at_string (Kd.R_reads' HB.out).2.2 e HBe.out.1 (by have:=HBe.out.2;simp only [List.length_cons,List.length_nil];omega)
      cases e_
      replace hx:_ = some (Value.string (plS e)):=hx
      refine value_ (w1:=?_) (v:=?_) (by rfl) rfl ?_ ?_
      rotate_left 2
      ·go_simp
       constructor
       ·rfl
       ·rfl
      clear hx
      refine hK.out _ _ trivial (fun hHeld=>?_)
      clear hK K
      refine norm_ (a':=?_) ?_ ?_
      rotate_left
      ·show Act.put _ (some 52) _ = _
       simp only [Act.put,sA,sB,sC,i64_w,i32_w]
       rfl
      exact norm_ (by (simp only [putAll,Act.put,sA,sB,sC];done)) (hJ1_3_5_7_9 (adB_,cB_) _ ⟨HP.out,HG.out⟩)
    ·skip
     rintro ⟨adB_,cB_⟩ w1_3_5_7_ ⟨hP_,hG_⟩
     have HP:Aside0 (PaS w gd raw (rollU raw (rollU raw u3)) v5 out w1_3_5_7_):=⟨hP_⟩
     have HG:Aside0 (w1_3_5_7_.heap[g]? = some (.cells #[.int .i64 (1 + (i:Int) * 2 + a),.int .i64 site,.int .i64 0,.int .i64 (1 + b),.int .i64 0,.string ⟨#[]⟩,.string ⟨#[]⟩,.string ⟨#[]⟩] 128 (0,0))):=⟨hG_⟩
     clear hP_ hG_
     have hHeld:True:=trivial
     refine norm_ (a':=?_) ?_ ?_
     rotate_left
     ·simp only [putAll,Act.put,sA,sB,sC]
      rfl
     refine one_ (i:=9) (N:=none) (bm 1023 12) rfl rfl (by kernel_rfl) (by decide) (fun K hK=>?_)
     have hs_:=(blk_cell HG.out 4).trans rfl
     have hf_:=blk_frozen HG.out 4
     refine skip_ (w1:=?_) (by rfl) rfl ?_ ?_
     rotate_left
     ·go_simp
      rfl
     have HG0:=HG
     have HG:=Aside0.mk (blk_put HG.out 4 (.int .i64 (d - 1)) #[.int .i64 (1 + (i:Int) * 2 + a),.int .i64 site,.int .i64 0,.int .i64 (1 + b),.int .i64 (d - 1),.string ⟨#[]⟩,.string ⟨#[]⟩,.string ⟨#[]⟩] rfl)
     have HP:=Aside0.mk (HP.out.set HG0.out HGL.out HGN.out 4 (.int .i64 (d - 1)))
     clear HG0 hs_ hf_
     refine hK.out _ _ trivial (fun hHeld=>?_)
     clear hK K
     exact norm_ (by (simp only [putAll,Act.put,sA,sB,sC];done)) (hJ1_3_5_7_9 (adB_,cB_) _ ⟨HP.out,HG.out⟩)
   rintro ⟨adB_,cB_⟩ w1_3_5_7_9_ ⟨hP_,hG_⟩
   have HP:Aside0 (PaS w gd raw (rollU raw (rollU raw u3)) v5 out w1_3_5_7_9_):=⟨hP_⟩
   have HG:Aside0 (w1_3_5_7_9_.heap[g]? = some (.cells #[.int .i64 (1 + (i:Int) * 2 + a),.int .i64 site,.int .i64 0,.int .i64 (1 + b),.int .i64 (d - 1),.string ⟨#[]⟩,.string ⟨#[]⟩,.string ⟨#[]⟩] 128 (0,0))):=⟨hG_⟩
   clear hP_ hG_
   have hHeld:True:=trivial
   refine norm_ (a':=?_) ?_ ?_
   rotate_left
   ·simp only [putAll,Act.put,sA,sB,sC]
    rfl
   refine pure_ (i:=10) (N:=some 54) (v:=?_) (a':=?_) (bm 2047 12) rfl rfl (by kernel_rfl) (fun _ _ _ h=>h) (Or.inl ⟨by rfl,?_⟩) ?_ ?_
   rotate_left
   ·intro w'
    go_simp
    with_reducible rfl
   rotate_left
   ·simp only [Act.put,sA,sB,sC,i64_w,i32_w]
    rfl
   refine last_ (i:=11) (N:=none) (bm 4095 12) rfl rfl (by kernel_rfl) (by decide) (fun K hK=>?_)
   have hs_:=(blk_cell HG.out 5).trans rfl
   have hf_:=blk_frozen HG.out 5
   refine skip_ (w1:=?_) (by rfl) rfl ?_ ?_
   rotate_left
   ·go_simp
    rfl
   have HG0:=HG
   have HG:=Aside0.mk (blk_put HG.out 5 (.string (plS e)) #[.int .i64 (1 + (i:Int) * 2 + a),.int .i64 site,.int .i64 0,.int .i64 (1 + b),.int .i64 (d - 1),.string (plS e),.string ⟨#[]⟩,.string ⟨#[]⟩] rfl)
   have HP:=Aside0.mk (HP.out.set HG0.out HGL.out HGN.out 5 (.string (plS e)))
   clear HG0 hs_ hf_
   refine hK.out _ _ ?_
   clear hK K
   refine done_ (by kernel_rfl) ?_
   clear hHeld
   obtain ⟨w9,hw9⟩:∃ W,W = w1_3_5_7_9_.setCell ⟨g,5,none⟩ (.string (plS e)):=⟨_,rfl⟩
   rw [← hw9] at HP HG
   rw [← hw9]
   clear hw9
   have cg0:w9.cell? ⟨g,0,none⟩ = some (.int .i64 (1 + (i:Int) * 2 + a)):=(blk_cell HG.out 0).trans rfl
   have cg1:w9.cell? ⟨g,1,none⟩ = some (.int .i64 site):=(blk_cell HG.out 1).trans rfl
   have cg2:w9.cell? ⟨g,2,none⟩ = some (.int .i64 0):=(blk_cell HG.out 2).trans rfl
   have cg3:w9.cell? ⟨g,3,none⟩ = some (.int .i64 (1 + b)):=(blk_cell HG.out 3).trans rfl
   have cg4:w9.cell? ⟨g,4,none⟩ = some (.int .i64 (d - 1)):=(blk_cell HG.out 4).trans rfl
   have cg5:w9.cell? ⟨g,5,none⟩ = some (.string (plS e)):=(blk_cell HG.out 5).trans rfl
   have cg6:w9.cell? ⟨g,6,none⟩ = some (.string ⟨#[]⟩):=(blk_cell HG.out 6).trans rfl
   have cg7:w9.cell? ⟨g,7,none⟩ = some (.string ⟨#[]⟩):=(blk_cell HG.out 7).trans rfl
   go_wp2_with (at_builtin;refine Kd.R_append k128 (w0:=w) (W:=w9) w.heap.size rfl (.tmp 55) (.tmp 57) 65 128 (.agg #[(.int .i64 0),(.int .i64 0),(.int .i64 0),(.int .i64 0),(.int .i64 0),(.string ⟨#[]⟩),(.string ⟨#[]⟩),(.string ⟨#[]⟩)]) 88 rfl Try.underlying65 info128 rfl (by decide) (by decide) v5 out ⟨1 + (i:Int) * 2 + a,site,0,1 + b,d - 1,plS e,⟨#[]⟩,⟨#[]⟩⟩ [.int .i64 (1 + (i:Int) * 2 + a),.int .i64 site,.int .i64 0,.int .i64 (1 + b),.int .i64 (d - 1),.string (plS e),.string ⟨#[]⟩,.string ⟨#[]⟩] (fun _=>True) (fun _=>False) rfl rfl (k128_mkM _ _ _ ⟨1 + (i:Int) * 2 + a,site,0,1 + b,d - 1,plS e,⟨#[]⟩,⟨#[]⟩⟩) (fun _ hk=>hk.elim) (fun _ _=>trivial) HP.out.row HP.out.bel HP.out.size (by have h1:=HI.out.2.2;have h2:=HNI.out;omega) ?_;intro vn wn hR hB hg ha;have HPN:=Aside0.mk (HP.out.append hR hB hg);clear hR hB hg ha HP HG)
   have wk:=HWK.out
   go_roundg gl
   case measure=>omega
   case rel=>exact ⟨i + 1,_,vn,_,rfl,by simp [wk],⟨⟨by have:=HI.out;omega,HU5.out,by rw [List.length_append,HI.out.2.2];rfl⟩⟩,HLX,HPN⟩
end Go.Proofs.Ytlcodfjlbhjkbaa.PDelta
end
section
namespace Go.Proofs.Ytlcodfjlbhjkbaa.PDelta
open Go.Shelf Go.Lib
open Go.RowKit Go.Maps Go.Sort Go.Proofs.YtlcodfjlbhjkbaaW.PrintWords Go.Proofs.YtlcodfjlbhjkbaaW.PrintLast Go.Proofs.YtlcodfjlbhjkbaaW.PrintMore
def sortIt_ren:Go.Shelf.Ren:=⟨fun | 6=>109 | 15=>119 | 14=>142 | 28=>155 | 29=>156 | 20=>160 | 21=>161 | 22=>162 | 23=>163 | 24=>164 | 25=>165 | 26=>166 | 27=>167 | 46=>173 | 47=>169 | 48=>170 | 49=>174 | 50=>175 | 57=>177 | n=>n,fun | 22=>70 | 24=>87 | 25=>184 | 3=>3 | 39=>188 | 0=>0 | 53=>216 | 55=>218 | 4=>4 | 46=>209 | 45=>208 | 50=>213 | 5=>5 | 9=>9 | 66=>226 | 70=>230 | 76=>234 | 77=>110 | n=>n,fun n=>n⟩
theorem sortIt:SlLaysF0.n6 Try.prog sortIt_ren where
 mixed:=by kernel_rfl
 f6 := ⟨"slices.SortFunc[[]chancery/api.DrawItem,chancery/api.DrawItem]", by decide, Try.func109.trans (congrArg some (by kernel_rfl))⟩
 f14 := ⟨"slices.pdqsortCmpFunc[chancery/api.DrawItem]", by decide, Try.func142.trans (congrArg some (by kernel_rfl))⟩
 f15:=Try.func119.trans (congrArg some (by kernel_rfl))
 f20 := ⟨"slices.insertionSortCmpFunc[chancery/api.DrawItem]", by decide, Try.func160.trans (congrArg some (by kernel_rfl))⟩
 f21 := ⟨"slices.heapSortCmpFunc[chancery/api.DrawItem]", by decide, Try.func161.trans (congrArg some (by kernel_rfl))⟩
 f22 := ⟨"slices.breakPatternsCmpFunc[chancery/api.DrawItem]", by decide, Try.func162.trans (congrArg some (by kernel_rfl))⟩
 f23 := ⟨"slices.choosePivotCmpFunc[chancery/api.DrawItem]", by decide, Try.func163.trans (congrArg some (by kernel_rfl))⟩
 f24 := ⟨"slices.reverseRangeCmpFunc[chancery/api.DrawItem]", by decide, Try.func164.trans (congrArg some (by kernel_rfl))⟩
 f25 := ⟨"slices.partialInsertionSortCmpFunc[chancery/api.DrawItem]", by decide, Try.func165.trans (congrArg some (by kernel_rfl))⟩
 f26 := ⟨"slices.partitionEqualCmpFunc[chancery/api.DrawItem]", by decide, Try.func166.trans (congrArg some (by kernel_rfl))⟩
 f27 := ⟨"slices.partitionCmpFunc[chancery/api.DrawItem]", by decide, Try.func167.trans (congrArg some (by kernel_rfl))⟩
 f28:=Try.func155.trans (congrArg some (by kernel_rfl))
 f29:=Try.func156.trans (congrArg some (by kernel_rfl))
 f46 := ⟨"slices.siftDownCmpFunc[chancery/api.DrawItem]", by decide, Try.func173.trans (congrArg some (by kernel_rfl))⟩
 f47:=Try.func169.trans (congrArg some (by kernel_rfl))
 f48:=Try.func170.trans (congrArg some (by kernel_rfl))
 f49 := ⟨"slices.medianAdjacentCmpFunc[chancery/api.DrawItem]", by decide, Try.func174.trans (congrArg some (by kernel_rfl))⟩
 f50 := ⟨"slices.medianCmpFunc[chancery/api.DrawItem]", by decide, Try.func175.trans (congrArg some (by kernel_rfl))⟩
 f57 := ⟨"slices.order2CmpFunc[chancery/api.DrawItem]", by decide, Try.func177.trans (congrArg some (by kernel_rfl))⟩
 t0:=Try.underlying0
 a0:=Try.isAgg0
 z0:=Try.sizeOf0
 v0:=Try.zeroValue0
 t3:=Try.underlying3
 a3:=Try.isAgg3
 z3:=Try.sizeOf3
 v3:=Try.zeroValue3
 t4:=Try.underlying4
 a4:=Try.isAgg4
 z4:=Try.sizeOf4
 v4:=Try.zeroValue4
 t5:=Try.underlying5
 a5:=Try.isAgg5
 z5:=Try.sizeOf5
 v5:=Try.zeroValue5
 t9:=Try.underlying9
 a9:=Try.isAgg9
 z9:=Try.sizeOf9
 v9:=Try.zeroValue9
 t22:=Try.underlying70
 a22:=Try.isAgg70
 z22:=Try.sizeOf70
 v22:=Try.zeroValue70
 t25:=Try.underlying184
 a25:=Try.isAgg184
 z25:=Try.sizeOf184
 v25:=Try.zeroValue184
 t39:=Try.underlying188
 a39:=Try.isAgg188
 z39:=Try.sizeOf188
 v39:=Try.zeroValue188
 t45:=Try.underlying208
 a45:=Try.isAgg208
 z45:=Try.sizeOf208
 v45:=Try.zeroValue208
 t46:=Try.underlying209
 a46:=Try.isAgg209
 z46:=Try.sizeOf209
 v46:=Try.zeroValue209
 t50:=Try.underlying213
 a50:=Try.isAgg213
 z50:=Try.sizeOf213
 v50:=Try.zeroValue213
 t53:=Try.underlying216
 a53:=Try.isAgg216
 z53:=Try.sizeOf216
 v53:=Try.zeroValue216
 t55:=Try.underlying218
 a55:=Try.isAgg218
 z55:=Try.sizeOf218
 v55:=Try.zeroValue218
 t66:=Try.underlying226
 a66:=Try.isAgg226
 z66:=Try.sizeOf226
 v66:=Try.zeroValue226
 t70:=Try.underlying230
 a70:=Try.isAgg230
 z70:=Try.sizeOf230
 v70:=Try.zeroValue230
 t76:=Try.underlying234
 a76:=Try.isAgg234
 z76:=Try.sizeOf234
 v76:=Try.zeroValue234
 t77:=Try.underlying110
 a77:=Try.isAgg110
 z77:=Try.sizeOf110
 v77:=Try.zeroValue110
set_option maxHeartbeats 2000000 in
theorem insertNone (L:SlLaysF0.n20 Try.prog sortIt_ren) (p:Option Addr) (cap:Nat) (fv:Value) (w:World) :
 Calls Try.prog (sortIt_ren.f 20) #[.slice p 0 cap,.int .i64 0,.int .i64 0,fv] w fun e w'=>e = .returned (.tuple #[]) ∧ w' = w:=by
 go_enter Try.func160,Try.ntmps160
 go_wp2
 refine wp_loop_rounds 1 ?_
 rw [rounds_succ]
 go_wp2
 go_end0
 exact ⟨rfl,rfl⟩
set_option maxHeartbeats 2000000 in
theorem pdqNone (p:Option Addr) (cap:Nat) (lim:Int) (fv:Value) (w:World) :
 Calls Try.prog 142 #[.slice p 0 cap,.int .i64 0,.int .i64 0,.int .i64 lim,fv] w fun e w'=>e = .returned (.tuple #[]) ∧ w' = w:=by
 have hi:=fun W=>insertNone { sortIt with } p cap fv W
 change ∀ W,Calls Try.prog 160 _ _ _ at hi
 go_enter Try.func142,Try.ntmps142
 go_wp2
 refine wp_loop_rounds 1 ?_
 rw [rounds_succ]
 go_wp2_with (go_at_call 160;refine (hi _).mono ?_;rintro e w' ⟨rfl,rfl⟩)
 (try simp only [Exit.inBlock,Exit.then]);refine bodyPost_ret (results_none rfl _ _ _) rfl ?_
 exact ⟨rfl,rfl⟩
set_option maxHeartbeats 2000000 in
theorem sortNone (p:Option Addr) (cap:Nat) (fv:Value) (w:World) :
 Calls Try.prog 109 #[.slice p 0 cap,fv] w fun e w'=>e = .returned (.tuple #[]) ∧ w' = w:=by
 have hp:=fun lim W=>pdqNone p cap lim fv W
 have hl:∀ W,Calls Try.prog 119 #[.int .u64 0] W fun e w'=>e = .returned (.int .i64 (Lib.bitLen 0:Nat)) ∧ w' = W:=fun W=>by
  have h:=Any.bits_Len (SlLaysF0.n15.bits (P:=Try.prog) (ρ:=sortIt_ren) { sortIt with }) 0 W (by omega) (by omega)
  exact h
 go_enter Try.func109,Try.ntmps109
 go_wp2_with (first | (go_at_call 119;refine (hl _).mono ?_;rintro e w' ⟨rfl,rfl⟩) | (go_at_call 142;refine (hp _ _).mono ?_;rintro e w' ⟨rfl,rfl⟩))
 go_end0
 exact ⟨rfl,rfl⟩
theorem sortSome (g:Nat) (cf:It4 → It4 → Int) (hO:SWO (ltOf cf)) (eg:∀ args w,(callFunc g args).run Try.prog w = .ok (.enter g args) w)
 (hc:∀ x y W,Calls Try.prog g #[.agg (enc4 x).toArray,.agg (enc4 y).toArray] W fun e w'=>e = .returned (.int .i64 (cf x y)) ∧ Gr W w')
 (blk cap:Nat) (d:Array It4) (w:World) (hH:HoldsK enc4 4 w blk 0 d) (hblk:blk < w.heap.size) (hsz:d.size < 4611686018427387904) :
 Calls Try.prog 109 #[.slice (some ⟨blk,0,none⟩) d.size cap,.func (.func g) #[] #[]] w fun e w'=>e = .returned (.tuple #[]) ∧ ∃ d' n os,PermIn 0 d.size d d' ∧ SortedIn (ltOf cf) 0 d.size d' ∧ w' = sortWorldK enc4 4 w blk 0 n d' os:=by
 have hcon:=AnyQ.slices_SortFunc sortIt 4 Try.isAgg87 Try.sizeOf87 enc4 enc4_len enc4_one cf hO g #[] blk 0 cap d w eg (fun m os dk _ x y=>(hc x y _).mono fun e w' h=>⟨h.1,h.2.out⟩) hH hblk hsz
 exact hcon
theorem pairwise_of {lt:It4 → It4 → Bool} {d:Array It4} (h:SortedIn lt 0 d.size d):d.toList.Pairwise (fun x y=>lt y x = false):=by
 rw [List.pairwise_iff_getElem]
 intro i j hi hj hij
 have:=h i j (Nat.zero_le _) hij (by simpa using hj)
 rw [getElem!_pos d j (by simpa using hj),getElem!_pos d i (by simpa using hi)] at this
 simpa using this
theorem sort_calls (g:Nat) (cf:It4 → It4 → Int) (hO:SWO (ltOf cf)) (eg:∀ args w,(callFunc g args).run Try.prog w = .ok (.enter g args) w)
 (hc:∀ x y W,Calls Try.prog g #[.agg (enc4 x).toArray,.agg (enc4 y).toArray] W fun e w'=>e = .returned (.int .i64 (cf x y)) ∧ Gr W w')
 (v:Value) (base:Nat) (L:List It4) (w:World) (h:RowIs w base v L) (hl:L.length < 4611686018427387904) :
 Calls Try.prog 109 #[v,.func (.func g) #[] #[]] w fun e w'=>e = .returned (.tuple #[]) ∧ ∃ L',L'.Perm L ∧ L'.Pairwise (fun x y=>ltOf cf y x = false) ∧ RowIs w' base v L' ∧ w.grownBy w' v.ownBlock:=by
 rcases h.2 with ⟨h0,h1⟩ | ⟨blk,cap,cur,e,_,_,h1,_⟩
 ·subst h0
  have hL:L = []:=List.eq_nil_of_length_eq_zero h1
  subst hL
  refine (sortNone none 0 (.func (.func g) #[] #[]) w).mono ?_
  rintro e w' ⟨rfl,rfl⟩
  exact ⟨rfl,[],List.Perm.nil,List.Pairwise.nil,h,⟨rfl,rfl,rfl,Nat.le_refl _,fun _ _ _=>rfl⟩⟩
 ·subst e
  obtain ⟨hH,hb,hn⟩:=RowIs.holds h
  have hs:L.toArray.size = L.length:=by simp
  have hcon:=sortSome g cf hO eg hc blk cap L.toArray w hH hb (by rw [hs];exact hl)
  rw [hs] at hcon
  refine hcon.mono ?_
  rintro e w' ⟨rfl,d',n,os,hp,hsd,rfl⟩
  have hd:d'.size = L.length:=by rw [hp.1,hs]
  refine ⟨rfl,d'.toList,?_,pairwise_of (by rw [hd];exact hsd),RowIs.sorted h d' hd,?_⟩
  ·have h3:=hp.2.2
   rw [show L.length = d'.size from hd.symm] at h3
   have e1:(d'.extract 0 d'.size).toList = d'.toList:=by simp
   have e2:(L.toArray.extract 0 d'.size).toList = L:=by rw [hd];simp
   rwa [e1,e2] at h3
  ·exact sorted_grown d'
end Go.Proofs.Ytlcodfjlbhjkbaa.PDelta
end
section
namespace Go.Proofs.Ytlcodfjlbhjkbaa.PDelta
open Go.RowKit Go.Maps Go.Sort Go.Proofs.YtlcodfjlbhjkbaaW.PrintWords Go.Proofs.YtlcodfjlbhjkbaaW.PrintLast Go.Proofs.YtlcodfjlbhjkbaaW.PrintMore
structure FrA (lo:Nat) (w w':World):Prop where
 bel:Below lo w w'
 at91:∀ (k:Nat) cells,w.heap[k]? = some (Obj.cells cells 91 (0,0)) → w'.heap[k]? = w.heap[k]?
theorem FrA.refl (lo:Nat) (w:World):FrA lo w w:=⟨Below.refl _ _,fun _ _ _=>rfl⟩
theorem FrA.trans {lo:Nat} {a b c:World} (h:FrA lo a b) (k:FrA lo b c):FrA lo a c:=⟨h.bel.trans k.bel,fun i cells hi=>(k.at91 i cells ((h.at91 i cells hi).trans hi)).trans (h.at91 i cells hi)⟩
theorem FrA.below {lo:Nat} {a b c:World} (h:FrA lo a b) (hlo:lo ≤ b.heap.size) (k:Below b.heap.size b c):FrA lo a c:=h.trans ⟨k.mono hlo,fun i cells hi=>k.block i (blk_lt hi)⟩
theorem FrA.grown {lo:Nat} {a b c:World} {row:Option Nat} (h:FrA lo a b) (k:b.grownBy c row) (hlo:lo ≤ b.heap.size) (h1:∀ i,row = some i → lo ≤ i ∧ ∀ cells,b.heap[i]? ≠ some (Obj.cells cells 91 (0,0))):FrA lo a c:=by
 refine h.trans ⟨(Below.refl lo b).grown k hlo (fun i hi=>(h1 i hi).1),fun i cells hi=>k.block i (blk_lt hi) (fun e=>(h1 i e.symm).2 cells hi)⟩
theorem FrA.set {lo:Nat} {a b:World} {g o:Nat} {c:Array Value} {t:TypeId} {fr:Nat × Nat} (h:FrA lo a b) (hg:b.heap[g]? = some (.cells c t fr)) (ht:t ≠ 91) (hlo:lo ≤ g) (u:Value):FrA lo a (b.setCell ⟨g,o,none⟩ u):=by
 refine h.trans ⟨(Below.refl lo b).setCell hlo _,fun i cells hi=>Below.heap_setCell b ⟨g,o,none⟩ u i (fun e=>?_)⟩
 simp only at e
 subst e
 rw [hg] at hi
 injection hi with hi
 injection hi with _ hi
 exact ht hi
theorem RowIs.fr {w:World} {base:Nat} {v:Value} {xs:List It4} (h:RowIs w base v xs) {lo:Nat} (hlo:lo ≤ base):∀ i,v.ownBlock = some i → lo ≤ i ∧ ∀ cells,w.heap[i]? ≠ some (Obj.cells cells 91 (0,0)):=by
 intro i hi
 obtain ⟨h1,_,cur,hc⟩:=h.cells hi
 refine ⟨Nat.le_trans hlo h1,fun cells e=>?_⟩
 rw [hc] at e
 injection e with e
 injection e with _ e
 exact absurd e (by decide)
theorem map_fr {w:World} {m:Nat} {es:Array MapEntry} {c lo:Nat} (h:w.heap[m]? = some (.map es c)) (hlo:lo ≤ m):∀ i,some m = some i → lo ≤ i ∧ ∀ cells,w.heap[i]? ≠ some (Obj.cells cells 91 (0,0)):=by
 intro i hi
 cases hi
 exact ⟨hlo,fun cells e=>by rw [h] at e;cases e⟩
theorem RowIs.at {w:World} {base n c:Nat} {A:Option Addr} {L:List It4} (h:RowIs w base (.slice A n c) L) (i:Nat) (hi:i < L.length):∃ ad,A = some ad ∧ w.cell? (ad.add (i * 4)) = some (.int .i64 (L[i]'hi).i) ∧ w.cell? ⟨(ad.add (i * 4)).block,(ad.add (i * 4)).off + 1,none⟩ = some (.int .i64 (L[i]'hi).p) ∧ w.cell? ⟨(ad.add (i * 4)).block,(ad.add (i * 4)).off + 2,none⟩ = some (.string (L[i]'hi).s) ∧ w.cell? ⟨(ad.add (i * 4)).block,(ad.add (i * 4)).off + 3,none⟩ = some (.slice (L[i]'hi).A (L[i]'hi).n (L[i]'hi).c):=by
 rcases h.2 with ⟨h0,h1⟩ | ⟨g,cap,cur,e,hb,hh,h1,h2,h3,h4⟩
 ·omega
 ·injection e with e1 e2 e3
  subst e1 e2 e3
  have hc:=World.ownsRow.cells h (g:=g) rfl
  have hf:∀ j,j < 4 → (L.flatMap enc4)[i * 4 + j]? = some ((enc4 (L[i]'hi))[j]!):=fun j hj=>by
   rw [flat_get L (i * 4 + j) (by omega)]
   have e1:(i * 4 + j) / 4 = i:=by omega
   have e2:(i * 4 + j) % 4 = j:=by omega
   rw [e1,e2,getElem!_pos L i hi]
  have key:∀ j,j < 4 → w.cell? ((⟨g,0,none⟩:Addr).add (i * 4 + j)) = some ((enc4 (L[i]'hi))[j]!):=fun j hj=>hc (i * 4 + j) _ (hf j hj)
  exact ⟨⟨g,0,none⟩,rfl,key 0 (by omega),by rw [← add_field _ _ 1 (by omega)];exact key 1 (by omega),by rw [← add_field _ _ 2 (by omega)];exact key 2 (by omega),by rw [← add_field _ _ 3 (by omega)];exact key 3 (by omega)⟩
theorem swoP:SWO (ltOf cmpP):=⟨fun x=>lt2_irrefl x.s x.i,fun x y z h k=>lt2_trans (s:=x.s) (t:=y.s) (u:=z.s) h k,fun x y z h k=>lt2_ntrans (s:=x.s) (t:=y.s) (u:=z.s) h k⟩
theorem cmpI_lt (a b:Int):decide (cmpI a b < 0) = decide (a < b):=by
 unfold cmpI
 by_cases h:a < b
 ·simp [h]
 ·rw [if_neg h];split <;> simp [h]
theorem swoN:SWO (ltOf cmpN):=by
 have e:ltOf cmpN = fun x y=>decide (x.i < y.i):=by
  funext x y
  exact cmpI_lt x.i y.i
 rw [e]
 refine ⟨fun x=>?_,fun x y z h k=>?_,fun x y z h k=>?_⟩
 ·exact decide_eq_false (by omega)
 ·have h:=of_decide_eq_true h
  have k:=of_decide_eq_true k
  exact decide_eq_true (by omega)
 ·have h:=of_decide_eq_false h
  have k:=of_decide_eq_false k
  exact decide_eq_false (by omega)
theorem sorted_kids {b:Brd} (hB:BOK b) (sl:Int → Option Addr × Nat × Nat) {p:Int} {L0:List S87} {L1:List It4} (h0:L0.Perm (kidsL b p)) (h1:L1.Perm (L0.map (mk4 sl))) (hs:L1.Pairwise (fun x y=>ltOf cmpP y x = false)):L1 = (kidsF b p).map (mk4 sl):=by
 have hm:=(h0.trans (kids_perm b p).symm).map (mk4 sl)
 refine sorted_one (lt:=ltOf cmpP) (h1.trans hm) hs ?_ ?_
 ·rw [List.pairwise_map]
  exact kids_sorted b p
 ·intro x hx y hy e1 e2
  obtain ⟨x',hx',rfl⟩:=List.mem_map.1 hx
  obtain ⟨y',hy',rfl⟩:=List.mem_map.1 hy
  have h3:=(lt2_total (s:=x'.f2) (t:=y'.f2) (i:=x'.f0) (j:=y'.f0) e1 e2).2
  have h4:=hB.it_of (kids_mem.1 hx').1
  rw [h3,hB.it_of (kids_mem.1 hy').1] at h4
  cases h4
  rfl
theorem rowSnoc {w:World} {base:Nat} {vn:Value} {out:List S87} {sl:Int → Option Addr × Nat × Nat} {x:S87} {A:Option Addr} {n c:Nat} (hs:mk4 sl x = ⟨x.f0,x.f1,x.f2,A,n,c⟩) (h:w.ownsRow base 87 4 vn ((out.map (mk4 sl)).length + 1) ((out.map (mk4 sl)).flatMap enc4 ++ [.int .i64 x.f0,.int .i64 x.f1,.string x.f2,.slice A n c])):RowIs w base vn ((out ++ [x]).map (mk4 sl)):=by
 unfold RowIs
 rw [List.map_append,List.flatMap_append,List.length_append,List.map_cons,List.map_nil,hs]
 exact h
theorem zero70 (w:World):(zeroValue 70).run Try.prog w = .ok (.slice none 0 0) w:=by kernel_rfl
theorem info87i:(Try.prog.info? 87).map (fun i=>(i.zero,i.size,i.bytes)) = some (some (.agg #[.int .i64 0,.int .i64 0,.string ⟨#[]⟩,.slice none 0 0]),4,56):=by kernel_rfl
def WalkE (base K Kb Ob Sb Wb Sm nk lo:Nat) (gm:Int → Option Value) (sl:Int → Option Addr × Nat × Nat) (b:Brd) (va:Value) (D:List S87) (done:Int → Prop) (w:World) (out:List S87) (e:Ending) (w':World):Prop :=
 e = .returned (.tuple #[]) ∧ ∃ (done':Int → Prop) (vo:Value) (gs:Int → Option Value),(∀ q,done q → done' q) ∧ WalkS base K Kb Ob Sb Wb Sm nk gm sl b va D done' w' vo out gs ∧ FrA lo w w'
section
variable {base K Kb Ob Sb Wb Sm nk lo:Nat} {gm:Int → Option Value} {sl:Int → Option Addr × Nat × Nat} {b:Brd} {va:Value} {D:List S87}
set_option maxRecDepth 100000 in
set_option maxHeartbeats 4000000 in
theorem walk_calls (hlo:lo ≤ base) (hB:BOK b) (hWf:∀ x ∈ b.its,(Lit.int .i64 x.f0).wf = true) (k:Nat):∀ (p:Int) (out out':List S87) (w:World) (done:Int → Prop) (vo:Value) (gs:Int → Option Value),(Lit.int .i64 p).wf = true → lo ≤ w.heap.size → b.its.length ≤ 1073741824 →
 WalkS base K Kb Ob Sb Wb Sm nk gm sl b va D done w vo out gs → visitF k b p out = some out' →
 Calls Try.prog 108 #[.int .i64 p,.pointer (some ⟨Kb,0,none⟩),.pointer (some ⟨Ob,0,none⟩),.pointer (some ⟨Sb,0,none⟩),.pointer (some ⟨Wb,0,none⟩)] w (WalkE base K Kb Ob Sb Wb Sm nk lo gm sl b va D done w out'):=by
 have HBK:=Aside0.mk hB
 have HWF:=Aside0.mk hWf
 have HLO:=Aside0.mk hlo
 clear hB hWf hlo
 induction k with
 | zero=>intro p out out' w done vo gs _ _ _ _ h;cases h
 | succ k ih =>
  intro p out out' w done vo gs hp hws hbl hW hv
  have HIH:=Aside0.mk ih
  obtain ⟨L0,hL0,_,hr0⟩:=hW.kids p
  have hlen:L0.length = (kidsF b p).length:=(hL0.trans (kids_perm b p).symm).length_eq
  obtain ⟨A,c,hvs,hc⟩:=hr0.slice
  rw [List.length_map,hlen] at hvs hc
  have hkl:(kidsF b p).length ≤ 1073741824:=by
   have h1:=(kids_perm b p).length_eq
   have h2:(kidsL b p).length ≤ b.its.length:=List.length_filter_le _ _
   omega
  obtain ⟨n,hn⟩:∃ n,n = (kidsF b p).length:=⟨_,rfl⟩
  rw [← hn] at hvs hc
  rw [hvs] at hr0
  have HE:=Aside0.mk hvs
  have HS:Aside0 (Calls Try.prog 109 #[.slice A n c,.func (.func 110) #[] #[]] w fun e w'=>e = .returned (.tuple #[]) ∧ WalkS base K Kb Ob Sb Wb Sm nk gm sl b va D (fun q=>done q ∨ q = p) w' vo out gs ∧ FrA lo w w'):=by
   refine ⟨(sort_calls 110 cmpP swoP (enters_of Try.func110 (by kernel_rfl) rfl) cmpp_calls _ base _ w hr0 (by rw [List.length_map,hlen];omega)).mono ?_⟩
   rintro e w' ⟨rfl,L1,h1,h2,h3,h4⟩
   obtain rfl:=sorted_kids HBK.out sl hL0 h1 h2
   rw [← hvs] at h3 h4
   refine ⟨rfl,hW.sorted p h4 h3 (kids_perm b p),(FrA.refl lo w).grown h4 hws ?_⟩
   rw [hvs]
   exact hr0.fr HLO.out
  have HW:=Aside0.mk hW
  have HBL:=Aside0.mk hbl
  have HP:=Aside0.mk hp
  have HWS:=Aside0.mk hws
  have HN:Aside0 (n = (kidsF b p).length ∧ n ≤ c ∧ n ≤ 1073741824):=⟨hn,hc,by omega⟩
  have HV:Aside0 ((kidsF b p).foldlM (fun o x=>if o.length ≤ 1073741824 then visitF k b x.f0 (o ++ [x]) else none) out = some out'):=⟨by unfold visitF at hv;exact hv⟩
  have ckb:w.cell? ⟨Kb,0,none⟩ = some (.map (some K)):=(blk_cell hW.kb 0).trans rfl
  clear hL0 hr0 hlen hvs hc hkl hn hW hp hws hv hbl ih
  go_enter Try.func108,Try.ntmps108
  go_upto_region 1 with (first | (at_lookup;refine wp_look _ rfl _ _ 179 70 rfl Try.underlying179 _ (zero70 _) K nk gm rfl HW.out.mK p rfl HP.out _ HE.out ?_) | (go_at_call 109;(with_reducible refine HS.out.mono ?_);rintro e1 w1 ⟨rfl,hW1,hF1⟩;have HW1:=Aside0.mk hW1;have HF1:=Aside0.mk hF1;have ckb1:w1.cell? ⟨Kb,0,none⟩ = some (.map (some K)):=(blk_cell hW1.kb 0).trans rfl;clear hW1 hF1))
  go_wp2_with (at_lookup;refine wp_look _ rfl _ _ 179 70 rfl Try.underlying179 _ (zero70 _) K nk gm rfl HW1.out.mK p rfl HP.out _ HE.out ?_)
  clear ckb ckb1
  go_loopg [16] n (fun m v16 wr=>∃ (i:Nat) (done1:Int → Prop) (out1:List S87) (vo1:Value) (gs1:Int → Option Value),v16 = .int .i64 (i:Int) ∧ Aside0 (m + i = n) ∧ Aside0 (((kidsF b p).drop i).foldlM (fun o x=>if o.length ≤ 1073741824 then visitF k b x.f0 (o ++ [x]) else none) out1 = some out') ∧ Aside0 (∀ q,(done q ∨ q = p) → done1 q) ∧ Aside0 (WalkS base K Kb Ob Sb Wb Sm nk gm sl b va D done1 wr vo1 out1 gs1) ∧ Aside0 (FrA lo w wr))
  case atStart=>exact ⟨0,_,_,_,_,rfl,⟨rfl⟩,HV,⟨fun q h=>h⟩,HW1,HF1⟩
  case round =>
   obtain ⟨i,done1,out1,vo1,gs1,rfl,HI,HV1,HD1,HW2,HF2⟩:=hrel
   clear HV HW1 HF1 HS HW
   by_cases d1:i < n
   rotate_left
   ·have g1:decide ((i:Int) < (n:Int)) = false:=decide_eq_false (by omega)
    have g1':decide (i < n) = false:=decide_eq_false d1
    have HX:Aside0 (out1 = out'):=⟨by have h1:=HV1.out;rw [List.drop_eq_nil_of_le (by have:=HN.out.1;omega)] at h1;exact Option.some.inj h1⟩
    clear d1
    go_wp2
    go_end0
    exact ⟨rfl,done1,vo1,gs1,fun q h=>HD1.out q (.inl h),by rw [← HX.out];exact HW2.out,HF2.out⟩
   have g1:decide ((i:Int) < (n:Int)) = true:=decide_eq_true (by omega)
   have g1':decide (i < n) = true:=decide_eq_true d1
   have q1:(i:Int) < (n:Int):=by omega
   obtain ⟨gl,rfl⟩:∃ gl,gk = gl + 1:=⟨gk - 1,by have:=HI.out;omega⟩
   have hil:i < (kidsF b p).length:=by have:=HN.out.1;omega
   obtain ⟨x,hx⟩:∃ x,x = (kidsF b p)[i]'hil:=⟨_,rfl⟩
   have HXM:=Aside0.mk (kids_mem.1 (hx ▸ List.getElem_mem hil))
   have hv1:=HV1.out
   rw [List.drop_eq_getElem_cons hil,← hx,List.foldlM_cons] at hv1
   obtain ⟨out2,ho2,hv2⟩:=Option.bind_eq_some_iff.1 hv1
   have hol:out1.length ≤ 1073741824:=by
    by_cases h:out1.length ≤ 1073741824
    ·exact h
    ·rw [if_neg h] at ho2;cases ho2
   rw [if_pos hol] at ho2
   have HO2:=Aside0.mk ho2
   have HV2:=Aside0.mk hv2
   have HOL:=Aside0.mk hol
   obtain ⟨L,hL,hLd,hLr⟩:=HW2.out.kids p
   obtain rfl:=hLd (HD1.out p (.inr rfl))
   rw [HE.out] at hLr
   obtain ⟨ad,eA,x0,x1,x2,x3⟩:=hLr.at i (by rw [List.length_map];exact hil)
   subst eA
   have hxe:((kidsF b p).map (mk4 sl))[i]'(by rw [List.length_map];exact hil) = mk4 sl x:=by rw [List.getElem_map,← hx]
   rw [hxe] at x0 x1 x2 x3
   replace x0:wr.cell? (ad.add (i * 4)) = some (.int .i64 x.f0):=x0
   replace x1:wr.cell? ⟨(ad.add (i * 4)).block,(ad.add (i * 4)).off + 1,none⟩ = some (.int .i64 x.f1):=x1
   replace x2:wr.cell? ⟨(ad.add (i * 4)).block,(ad.add (i * 4)).off + 2,none⟩ = some (.string x.f2):=x2
   obtain ⟨SA,hSA⟩:∃ S,S = (mk4 sl x).A:=⟨_,rfl⟩
   obtain ⟨Sn,hSn⟩:∃ S,S = (mk4 sl x).n:=⟨_,rfl⟩
   obtain ⟨Sc,hSc⟩:∃ S,S = (mk4 sl x).c:=⟨_,rfl⟩
   have HSL:Aside0 (mk4 sl x = ⟨x.f0,x.f1,x.f2,SA,Sn,Sc⟩):=⟨by rw [hSA,hSn,hSc];rfl⟩
   rw [← hSA,← hSn,← hSc] at x3
   clear hx hv1 ho2 hv2 hol hL hLd hLr hxe hSA hSn hSc HV1 hil
   go_upto_region 4 with (fail)
   obtain ⟨w2,hw2⟩:∃ W,W = wr.alloc (Obj.cells #[.int .i64 x.f0,.int .i64 x.f1,.string x.f2,.slice SA Sn Sc] 87):=⟨_,rfl⟩
   obtain ⟨g,hgn⟩:∃ g,g = wr.heap.size:=⟨_,rfl⟩
   have HLW:Aside0 (lo ≤ w2.drew.heap.size):=⟨by rw [hw2];have:=HF2.out.bel.size;have:=HWS.out;simp;omega⟩
   have HG1:Aside0 (w2.drew.heap[g]? = some (.cells #[.int .i64 x.f0,.int .i64 x.f1,.string x.f2,.slice SA Sn Sc] 87 (0,0))):=⟨by rw [hw2,hgn];exact blk_drew (blk_new wr _)⟩
   have HW3:Aside0 (WalkS base K Kb Ob Sb Wb Sm nk gm sl b va D done1 w2.drew vo1 out1 gs1):=⟨by rw [hw2];exact HW2.out.below (below_drew (below_alloc (Below.refl _ _) _))⟩
   have HF3:Aside0 (FrA lo w w2.drew):=⟨by rw [hw2];exact HF2.out.below (Nat.le_trans HWS.out HF2.out.bel.size) (below_drew (below_alloc (Below.refl _ _) _))⟩
   have HNG:Aside0 (vo1.ownBlock ≠ some g):=⟨fun e=>by have:=(HW2.out.ro.cells e).2.1;omega⟩
   have HBW:Aside0 (base ≤ w2.drew.heap.size):=⟨by have:=HW3.out.lO;have:=blk_lt HW3.out.ob;omega⟩
   rw [← hw2,← hgn]
   clear hw2 hgn HW2 HF2 x0 x1 x2 x3
   refine start_ (n:=9) (S:=fun w'=>w'.cell? ⟨Sb,0,none⟩ = some (.map (some Sm)) ∧ w'.cell? ⟨g,0,none⟩ = some (.int .i64 x.f0) ∧ w'.cell? ⟨g,1,none⟩ = some (.int .i64 x.f1) ∧ w'.cell? ⟨g,2,none⟩ = some (.string x.f2) ∧ w'.cell? ⟨g,3,none⟩ = some (.slice SA Sn Sc)) (ds:=[8]) #[false,false,false,false,false,false,false,false,false] (by kernel_rfl) rfl rfl ⟨((blk_cell HW3.out.sb 0).trans rfl),((blk_cell HG1.out 0).trans rfl),((blk_cell HG1.out 1).trans rfl),((blk_cell HG1.out 2).trans rfl),((blk_cell HG1.out 3).trans rfl)⟩ (fun hHeld=>?_)
   refine pure_ (i:=1) (N:=some 21) (v:=?_) (a':=?_) (bm 2 9) rfl rfl (by kernel_rfl) (fun _ _ _ h=>h) (Or.inl ⟨by rfl,?_⟩) ?_ ?_
   rotate_left
   ·intro w'
    go_simp
    with_reducible rfl
   rotate_left
   ·simp only [Act.put,sA,sB,sC,i64_w,i32_w]
    rfl
   refine take_ (i:=0) (N:=some 20) (v:=?_) (a':=?_) (bm 3 9) rfl rfl (by kernel_rfl) (fun _ _ _ h=>h) (Or.inl ⟨by rfl,?_⟩) hHeld ?_ ?_
   rotate_left
   ·rintro w' ⟨s0,s1,s2,s3,s4⟩
    go_simp
    with_reducible rfl
   rotate_left
   ·simp only [Act.put,sA,sB,sC,i64_w,i32_w]
    rfl
   refine take_ (i:=2) (N:=some 22) (v:=?_) (a':=?_) (bm 7 9) rfl rfl (by kernel_rfl) (fun _ _ _ h=>h) (Or.inl ⟨by rfl,?_⟩) hHeld ?_ ?_
   rotate_left
   ·rintro w' ⟨s0,s1,s2,s3,s4⟩
    go_simp
    with_reducible rfl
   rotate_left
   ·simp only [Act.put,sA,sB,sC,i64_w,i32_w]
    rfl
   refine take_ (i:=4) (N:=some 24) (v:=?_) (a':=?_) (bm 23 9) rfl rfl (by kernel_rfl) (fun _ _ _ h=>h) (Or.inl ⟨by rfl,?_⟩) hHeld ?_ ?_
   rotate_left
   ·rintro w' ⟨s0,s1,s2,s3,s4⟩
    go_simp
    with_reducible rfl
   rotate_left
   ·simp only [Act.put,sA,sB,sC,i64_w,i32_w]
    rfl
   refine join_ (σ:=Unit) 3 (bm 63 9) (fun _=>[(23,vo1),(25,.slice (some ⟨w2.heap.size,0,none⟩) 1 1)]) (fun _ w'=>w' = (w2.drew.alloc (Obj.cells #[.int .i64 x.f0,.int .i64 x.f1,.string x.f2,.slice SA Sn Sc] 87))) ?_ ?_
   rotate_left
   ·intro hCont
    refine two_ (i:=3) (j:=5) (Ni:=some 23) (Nj:=some 25) (bm 31 9) (bm 55 9) rfl rfl rfl rfl (by kernel_rfl) (by decide) (by decide) (fun K hK=>?_) (fun K hK=>?_)
    ·skip
     have cob:w2.drew.cell? ⟨Ob,0,none⟩ = some vo1:=(blk_cell HW3.out.ob 0).trans rfl
     refine value_ (w1:=?_) (v:=?_) (by rfl) rfl ?_ ?_
     rotate_left 2
     ·go_simp
      constructor
      ·rfl
      ·rfl
     clear cob
     refine hK.out _ _ ⟨((blk_cell HW3.out.sb 0).trans rfl),((blk_cell HG1.out 0).trans rfl),((blk_cell HG1.out 1).trans rfl),((blk_cell HG1.out 2).trans rfl),((blk_cell HG1.out 3).trans rfl)⟩ (fun hHeld=>?_)
     clear hK K
     refine norm_ (a':=?_) ?_ ?_
     rotate_left
     ·show Act.put _ (some 23) _ = _
      simp only [Act.put,sA,sB,sC,i64_w,i32_w]
      rfl
     refine one_ (i:=5) (N:=some 25) (bm 63 9) rfl rfl (by kernel_rfl) (by decide) (fun K hK=>?_)
     refine value_ (w1:=?_) (v:=?_) (by rfl) rfl ?_ ?_
     rotate_left 2
     ·go_simp
      constructor
      ·rfl
      ·rfl
     refine hK.out _ _ ⟨((blk_cell (HW3.out.below (below_alloc (Below.refl _ _) _)).sb 0).trans rfl),((blk_cell (blk_alloc HG1.out _) 0).trans rfl),((blk_cell (blk_alloc HG1.out _) 1).trans rfl),((blk_cell (blk_alloc HG1.out _) 2).trans rfl),((blk_cell (blk_alloc HG1.out _) 3).trans rfl)⟩ (fun hHeld=>?_)
     clear hK K
     refine norm_ (a':=?_) ?_ ?_
     rotate_left
     ·show Act.put _ (some 25) _ = _
      simp only [Act.put,sA,sB,sC,i64_w,i32_w]
      rfl
     exact norm_ (by simp only [putAll,Act.put,sA,sB,sC]) (hCont () _ rfl)
    ·skip
     refine value_ (w1:=?_) (v:=?_) (by rfl) rfl ?_ ?_
     rotate_left 2
     ·go_simp
      constructor
      ·rfl
      ·rfl
     refine hK.out _ _ ⟨((blk_cell (HW3.out.below (below_alloc (Below.refl _ _) _)).sb 0).trans rfl),((blk_cell (blk_alloc HG1.out _) 0).trans rfl),((blk_cell (blk_alloc HG1.out _) 1).trans rfl),((blk_cell (blk_alloc HG1.out _) 2).trans rfl),((blk_cell (blk_alloc HG1.out _) 3).trans rfl)⟩ (fun hHeld=>?_)
     clear hK K
     refine norm_ (a':=?_) ?_ ?_
     rotate_left
     ·show Act.put _ (some 25) _ = _
      simp only [Act.put,sA,sB,sC,i64_w,i32_w]
      rfl
     refine one_ (i:=3) (N:=some 23) (bm 63 9) rfl rfl (by kernel_rfl) (by decide) (fun K hK=>?_)
     have cob:w2.drew.cell? ⟨Ob,0,none⟩ = some vo1:=(blk_cell HW3.out.ob 0).trans rfl
     have cob2:(w2.alloc (Obj.cells #[.int .i64 x.f0,.int .i64 x.f1,.string x.f2,.slice SA Sn Sc] 87)).cell? ⟨Ob,0,none⟩ = some vo1:=(blk_cell (blk_alloc HW3.out.ob _) 0).trans rfl
     refine value_ (w1:=?_) (v:=?_) (by rfl) rfl ?_ ?_
     rotate_left 2
     ·go_simp
      constructor
      ·rfl
      ·rfl
     clear cob
     clear cob2
     refine hK.out _ _ ⟨((blk_cell (HW3.out.below (below_alloc (Below.refl _ _) _)).sb 0).trans rfl),((blk_cell (blk_alloc HG1.out _) 0).trans rfl),((blk_cell (blk_alloc HG1.out _) 1).trans rfl),((blk_cell (blk_alloc HG1.out _) 2).trans rfl),((blk_cell (blk_alloc HG1.out _) 3).trans rfl)⟩ (fun hHeld=>?_)
     clear hK K
     refine norm_ (a':=?_) ?_ ?_
     rotate_left
     ·show Act.put _ (some 23) _ = _
      simp only [Act.put,sA,sB,sC,i64_w,i32_w]
      rfl
     exact norm_ (by simp only [putAll,Act.put,sA,sB,sC]) (hCont () _ rfl)
   rintro _ w5 hw5
   subst hw5
   have hHeld:(w2.drew.alloc (Obj.cells #[.int .i64 x.f0,.int .i64 x.f1,.string x.f2,.slice SA Sn Sc] 87)).cell? ⟨Sb,0,none⟩ = some (.map (some Sm)) ∧ (w2.drew.alloc (Obj.cells #[.int .i64 x.f0,.int .i64 x.f1,.string x.f2,.slice SA Sn Sc] 87)).cell? ⟨g,0,none⟩ = some (.int .i64 x.f0) ∧ (w2.drew.alloc (Obj.cells #[.int .i64 x.f0,.int .i64 x.f1,.string x.f2,.slice SA Sn Sc] 87)).cell? ⟨g,1,none⟩ = some (.int .i64 x.f1) ∧ (w2.drew.alloc (Obj.cells #[.int .i64 x.f0,.int .i64 x.f1,.string x.f2,.slice SA Sn Sc] 87)).cell? ⟨g,2,none⟩ = some (.string x.f2) ∧ (w2.drew.alloc (Obj.cells #[.int .i64 x.f0,.int .i64 x.f1,.string x.f2,.slice SA Sn Sc] 87)).cell? ⟨g,3,none⟩ = some (.slice SA Sn Sc):=⟨((blk_cell (HW3.out.below (below_alloc (Below.refl _ _) _)).sb 0).trans rfl),((blk_cell (blk_alloc HG1.out _) 0).trans rfl),((blk_cell (blk_alloc HG1.out _) 1).trans rfl),((blk_cell (blk_alloc HG1.out _) 2).trans rfl),((blk_cell (blk_alloc HG1.out _) 3).trans rfl)⟩
   refine norm_ (a':=?_) ?_ ?_
   rotate_left
   ·simp only [putAll,Act.put,sA,sB,sC]
    rfl
   refine one_ (i:=6) (N:=some 26) (bm 127 9) rfl rfl (by kernel_rfl) (by decide) (fun K hK=>?_)
   refine step_append_cells (P:=Try.prog) (w0:=w2.drew) (W:=w2.drew) base (by rfl) (.tmp 23) (.tmp 25) 70 87 (.agg #[.int .i64 0,.int .i64 0,.string ⟨#[]⟩,.slice none 0 0]) 4 56 rfl Try.underlying70 info87i rfl (by decide) (by decide) vo1 (out1.map (mk4 sl)).length ((out1.map (mk4 sl)).flatMap enc4) [.int .i64 x.f0,.int .i64 x.f1,.string x.f2,.slice SA Sn Sc] rfl rfl rfl (by simp [Value.oneCell']) HW3.out.ro (Below.refl _ _) HBW.out (by have:=HOL.out;rw [List.length_map];omega) ?_
   intro vn w6 hr6 hb6 hg6 ha6
   have hR:RowIs w6 base vn ((out1 ++ [x]).map (mk4 sl)):=rowSnoc HSL.out hr6
   obtain ⟨AV,nv,cv,ev⟩:∃ A m c,vn = .slice A m c:=by obtain ⟨A,c,e,_⟩:=hR.slice;exact ⟨A,_,c,e⟩
   subst ev
   have HWA:=Aside0.mk (HW3.out.append hR hg6 ha6)
   have HG6:=Aside0.mk ((hg6.block g (blk_lt HG1.out) (fun e=>HNG.out e.symm)).trans HG1.out)
   have HF6:=Aside0.mk (HF3.out.grown hg6 HLW.out (HW3.out.ro.fr HLO.out))
   have HL6:=Aside0.mk (Nat.le_trans HLW.out hg6.size)
   clear hr6 hb6 hg6 ha6 hR HG1 HF3 HW3
   refine hK.out _ _ ⟨((blk_cell HWA.out.sb 0).trans rfl),((blk_cell HG6.out 0).trans rfl),((blk_cell HG6.out 1).trans rfl),((blk_cell HG6.out 2).trans rfl),((blk_cell HG6.out 3).trans rfl)⟩ (fun hHeld=>?_)
   clear hK K
   refine norm_ (a':=?_) ?_ ?_
   rotate_left
   ·show Act.put _ (some 26) _ = _
    simp only [Act.put,sA,sB,sC,i64_w,i32_w]
    rfl
   refine one_ (i:=7) (N:=none) (bm 255 9) rfl rfl (by kernel_rfl) (by decide) (fun K hK=>?_)
   have cob:w6.cell? ⟨Ob,0,none⟩ = some vo1:=(blk_cell HWA.out.ob 0).trans rfl
   have cobf:=blk_frozen HWA.out.ob 0
   refine skip_ (w1:=?_) (by rfl) rfl ?_ ?_
   rotate_left
   ·go_simp
    rfl
   have HWB:=Aside0.mk HWA.out.stored
   have HG7:=Aside0.mk ((Below.heap_setCell w6 ⟨Ob,0,none⟩ (.slice AV nv cv) g (fun e=>by have h:=HG6.out;rw [show g = Ob from e,HWA.out.ob] at h;injection h with h;injection h with _ h;exact absurd h (by decide))).trans HG6.out)
   have HF7:=Aside0.mk (HF6.out.set HWA.out.ob (by decide) (Nat.le_trans HLO.out HWA.out.lO) (o:=0) (.slice AV nv cv))
   have HL7:Aside0 (lo ≤ (w6.setCell ⟨Ob,0,none⟩ (.slice AV nv cv)).heap.size):=⟨by have:=HL6.out;simpa using this⟩
   clear cob cobf HWA HG6 HF6 HL6
   refine hK.out _ _ ⟨((blk_cell HWB.out.sb 0).trans rfl),((blk_cell HG7.out 0).trans rfl),((blk_cell HG7.out 1).trans rfl),((blk_cell HG7.out 2).trans rfl),((blk_cell HG7.out 3).trans rfl)⟩ (fun hHeld=>?_)
   clear hK K
   refine last_ (i:=8) (N:=none) (bm 511 9) rfl rfl (by kernel_rfl) (by decide) (fun K hK=>?_)
   obtain ⟨_,_,hmm⟩:=HWB.out.ms.map
   have HMM:=Aside0.mk hmm
   clear hmm
   refine step_store _ (by rfl) (.tmp 20) (.tmp 22) (.const (.bool true)) 133 4 rfl Try.underlying133 Sm out1.length gs1 rfl HWB.out.ms (by have:=HOL.out;simp only [maxLen];omega) x.f0 rfl (HWF.out x HXM.out.1) _ rfl ?_
   intro w8 hm8 hg8 hs8
   have HWE:=Aside0.mk (And.intro (HWB.out.marked hm8 hg8) (HF7.out.grown hg8 HL7.out (map_fr HMM.out (Nat.le_trans HLO.out HWB.out.lS))))
   have HLE:Aside0 (lo ≤ w8.heap.size):=⟨Nat.le_trans HL7.out hg8.size⟩
   have HGE:=Aside0.mk ((grown_move HMM.out hg8 _ _ _ HG7.out).trans HG7.out)
   clear hm8 hg8 hs8
   refine hK.out _ _ ?_
   clear hK K
   refine done_ (by kernel_rfl) ?_
   have wb8:w8.cell? ⟨Wb,0,none⟩ = some (.func (.func 108) #[] #[.pointer (some ⟨Kb,0,none⟩),.pointer (some ⟨Ob,0,none⟩),.pointer (some ⟨Sb,0,none⟩),.pointer (some ⟨Wb,0,none⟩)]):=(blk_cell HWE.out.1.wb 0).trans rfl
   have gx8:w8.cell? ⟨g,0,none⟩ = some (.int .i64 x.f0):=(blk_cell HGE.out 0).trans rfl
   clear hHeld
   go_upto_region 6 with (go_at_call 108;(with_reducible refine (HIH.out x.f0 (out1 ++ [x]) out2 _ done1 _ _ (HWF.out x HXM.out.1) HLE.out HBL.out HWE.out.1 HO2.out).mono ?_);rintro e6 w6 ⟨rfl,done2,vo2,gs2,hd2,hW6,hF6⟩;have HD6:=Aside0.mk hd2;have HW6:=Aside0.mk hW6;have HF6:=Aside0.mk hF6;clear hd2 hW6 hF6)
   have wk:wrap64 ((i:Int) + 1) = (i:Int) + 1:=by have:=HN.out.2.2;unfold wrap64;omega
   go_wp2
   go_roundg gl
   case measure=>omega
   case rel=>exact ⟨i + 1,done2,out2,vo2,gs2,by simp [wk],⟨by have:=HI.out;omega⟩,HV2,⟨fun q h=>HD6.out q (HD1.out q h)⟩,HW6,⟨HWE.out.2.trans HF6.out⟩⟩
end
theorem RangeV.block {w w':World} {b r n:Nat} {g:Int → Option Value} {left:Int → Bool} {cnt:Nat} (h:RangeV w b r n g left cnt) (hb:w'.heap[b]? = w.heap[b]?) (hr:w'.heap[r]? = w.heap[r]?):RangeV w' b r n g left cnt:=by
 obtain ⟨D,lf,⟨es,clock,since,seen,c0,h1,h2,h3,h4,h5,h6⟩,h7⟩:=h
 exact ⟨D,lf,⟨es,clock,since,seen,c0,hb.trans h1,h2,h3,h4,hr.trans h5,h6⟩,h7⟩
theorem RangeV.iter {w:World} {b r n:Nat} {g:Int → Option Value} {left:Int → Bool} {cnt:Nat} (h:RangeV w b r n g left cnt):∃ since seen c0,w.heap[r]? = some (.mapIter (some b) since seen c0):=by
 obtain ⟨D,lf,⟨es,clock,since,seen,c0,h1,h2,h3,h4,h5,h6⟩,h7⟩:=h
 exact ⟨since,seen,c0,h5⟩
def slOf (ga:Int → Option Value) (i:Int):Option Addr × Nat × Nat:=match (ga i).getD (.slice none 0 0) with
 | .slice A n c=>(A,n,c)
 | _=>(none,0,0)
def ItB (lo base:Nat) (w:World) (v:Value) (x:S87):Prop :=
 (Lit.int .i64 x.f1).wf = true ∧ ∃ p u,v = .pointer (some ⟨p,0,none⟩) ∧ lo ≤ p ∧ p < base ∧ w.heap[p]? = some (.cells #[.int .i64 x.f0,.int .i64 x.f1,.string x.f2,u] 87 (0,0))
structure FillB (lo base B Bi Ba n Kb K r nk:Nat) (gi ga:Int → Option Value) (b:Brd) (left:Int → Bool) (cnt:Nat) (gm:Int → Option Value) (w:World):Prop where
 blk:w.heap[B]? = some (.cells #[.map (some Bi),.map (some Ba)] 144 (0,0))
 rg:RangeV w Bi r n gi left cnt
 ma:MapV w Ba n ga
 neI:K ≠ Bi
 neA:K ≠ Ba
 its:∀ i,(gi i).isSome = (b.it i).isSome ∧ ∀ v x,gi i = some v → b.it i = some x → ItB lo base w v x
 ats:∀ i,AtV w lo ((ga i).getD (.slice none 0 0)) (b.atD i)
 kb:w.heap[Kb]? = some (.cells #[.map (some K)] 179 (0,0))
 mK:MapV w K nk gm
 lK:base ≤ K
structure FillR (base:Nat) (sl:Int → Option Addr × Nat × Nat) (gm:Int → Option Value) (w:World) (va:Value) (DK DA:List S87):Prop where
 kids:∀ p,RowIs w base ((gm p).getD (.slice none 0 0)) ((DK.filter (fun x=>x.f1 == p)).map (mk4 sl))
 kap:∀ p q k,p ≠ q → ((gm p).getD (.slice none 0 0)).ownBlock = some k → ((gm q).getD (.slice none 0 0)).ownBlock ≠ some k
 ra:RowIs w base va (DA.map (mk4 sl))
 aap:∀ p k,((gm p).getD (.slice none 0 0)).ownBlock = some k → va.ownBlock ≠ some k
section
variable {lo base B Bi Ba n Kb K r nk:Nat} {gi ga:Int → Option Value} {b:Brd} {left:Int → Bool} {cnt:Nat} {gm:Int → Option Value} {w w':World} {sl:Int → Option Addr × Nat × Nat} {va:Value} {DK DA:List S87}
def Kp (base:Nat) (w w':World):Prop:=∀ (g:Nat) (o:Obj),w.heap[g]? = some o → (∀ cur,o = .cells cur 87 (0,0) → g < base) → w'.heap[g]? = some o
theorem Kp.of {v:Value} {xs:List It4} (hv:RowIs w base v xs) (hg:w.grownBy w' v.ownBlock):Kp base w w':=by
 intro g o hgo ho
 refine (hg.block g (by obtain ⟨h,_⟩:=Array.getElem?_eq_some_iff.1 hgo;exact h) (fun e=>?_)).trans hgo
 obtain ⟨h1,_,cur,hc⟩:=hv.cells e.symm
 rw [hgo] at hc
 have:=ho cur (Option.some.inj hc)
 omega
theorem Kp.below (h:Below w.heap.size w w'):Kp base w w':=fun g o hgo _=>(h.block g (by obtain ⟨h,_⟩:=Array.getElem?_eq_some_iff.1 hgo;exact h)).trans hgo
theorem FillB.move (h:FillB lo base B Bi Ba n Kb K r nk gi ga b left cnt gm w) (hk:Kp base w w'):FillB lo base B Bi Ba n Kb K r nk gi ga b left cnt gm w':=by
 obtain ⟨_,_,m1⟩:=h.rg.map.map
 obtain ⟨_,_,m2⟩:=h.ma.map
 obtain ⟨_,_,m3⟩:=h.mK.map
 obtain ⟨_,_,_,m4⟩:=h.rg.iter
 have hmap:∀ {m:Nat} {es:Array MapEntry} {c:Nat},w.heap[m]? = some (.map es c) → w'.heap[m]? = w.heap[m]?:=fun hm=>(hk _ _ hm (fun _ e=>by cases e)).trans hm.symm
 refine ⟨hk _ _ h.blk (fun _ e=>by injection e with _ e;exact absurd e (by decide)),h.rg.block (hmap m1) ((hk _ _ m4 (fun _ e=>by cases e)).trans m4.symm),h.ma.block (hmap m2),h.neI,h.neA,fun i=>⟨(h.its i).1,fun v x hv hx=>?_⟩,fun i=>?_,hk _ _ h.kb (fun _ e=>by injection e with _ e;exact absurd e (by decide)),h.mK.block (hmap m3),h.lK⟩
 ·obtain ⟨hw,p,u,e,h1,h2,h3⟩:=(h.its i).2 v x hv hx
  exact ⟨hw,p,u,e,h1,h2,hk _ _ h3 (fun _ _=>h2)⟩
 ·exact AtV.move (h.ats i) (fun k cells hc=>(hk _ _ hc (fun _ e=>by injection e with _ e;exact absurd e (by decide))).trans hc.symm)
theorem FillB.next {left':Int → Bool} {cnt':Nat} (h:FillB lo base B Bi Ba n Kb K r nk gi ga b left cnt gm w) (hr:RangeV w' Bi r n gi left' cnt') (hg:w.grownBy w' (some r)):FillB lo base B Bi Ba n Kb K r nk gi ga b left' cnt' gm w':=by
 obtain ⟨_,_,m2⟩:=h.ma.map
 obtain ⟨_,_,m3⟩:=h.mK.map
 obtain ⟨_,_,_,m4⟩:=h.rg.iter
 have hk:∀ {g:Nat} {o:Obj},w.heap[g]? = some o → (∀ a b c d,o ≠ .mapIter a b c d) → w'.heap[g]? = some o:=fun {g o} hgo ho=>(hg.block g (by obtain ⟨h,_⟩:=Array.getElem?_eq_some_iff.1 hgo;exact h) (fun e=>by cases e;rw [m4] at hgo;exact ho _ _ _ _ (Option.some.inj hgo).symm)).trans hgo
 refine ⟨hk h.blk (fun _ _ _ _ e=>by cases e),hr,h.ma.block ((hk m2 (fun _ _ _ _ e=>by cases e)).trans m2.symm),h.neI,h.neA,fun i=>⟨(h.its i).1,fun v x hv hx=>?_⟩,fun i=>?_,hk h.kb (fun _ _ _ _ e=>by cases e),h.mK.block ((hk m3 (fun _ _ _ _ e=>by cases e)).trans m3.symm),h.lK⟩
 ·obtain ⟨hw,p,u,e,h1,h2,h3⟩:=(h.its i).2 v x hv hx
  exact ⟨hw,p,u,e,h1,h2,hk h3 (fun _ _ _ _ e=>by cases e)⟩
 ·exact AtV.move (h.ats i) (fun k cells hc=>(hk hc (fun _ _ _ _ e=>by cases e)).trans hc.symm)
theorem FillR.next (h:FillR base sl gm w va DK DA) (hr:RangeV w Bi r n gi left cnt) (hg:w.grownBy w' (some r)):FillR base sl gm w' va DK DA:=by
 obtain ⟨_,_,_,m4⟩:=hr.iter
 have hrow:∀ {v:Value} {xs:List It4},RowIs w base v xs → RowIs w' base v xs:=fun hv=>hv.keep (fun k e=>hg.block k (hv.cells e).2.1 (fun e'=>by
  cases e'
  obtain ⟨_,_,cur,hc⟩:=hv.cells e
  rw [m4] at hc
  cases hc))
 exact ⟨fun p=>hrow (h.kids p),h.kap,hrow h.ra,h.aap⟩
theorem FillB.store (h:FillB lo base B Bi Ba n Kb K r nk gi ga b left cnt gm w) {p:Nat} {c0 c1 c2 u:Value} (hp:w.heap[p]? = some (.cells #[c0,c1,c2,u] 87 (0,0))) (u':Value):FillB lo base B Bi Ba n Kb K r nk gi ga b left cnt gm (w.setCell ⟨p,3,none⟩ u'):=by
 obtain ⟨_,_,m1⟩:=h.rg.map.map
 obtain ⟨_,_,m2⟩:=h.ma.map
 obtain ⟨_,_,m3⟩:=h.mK.map
 obtain ⟨_,_,_,m4⟩:=h.rg.iter
 have hfar:∀ {g:Nat},g ≠ p → (w.setCell ⟨p,3,none⟩ u').heap[g]? = w.heap[g]?:=fun hg=>Below.heap_setCell w ⟨p,3,none⟩ u' _ hg
 have hk:∀ {g:Nat} {o:Obj},w.heap[g]? = some o → (∀ c,o ≠ .cells c 87 (0,0)) → (w.setCell ⟨p,3,none⟩ u').heap[g]? = some o:=fun {g o} hgo ho=>(hfar (fun e=>by subst e;rw [hp] at hgo;exact ho _ (Option.some.inj hgo).symm)).trans hgo
 refine ⟨hk h.blk (fun _ e=>by injection e with _ e;exact absurd e (by decide)),h.rg.block ((hk m1 (fun _ e=>by cases e)).trans m1.symm) ((hk m4 (fun _ e=>by cases e)).trans m4.symm),h.ma.block ((hk m2 (fun _ e=>by cases e)).trans m2.symm),h.neI,h.neA,fun i=>⟨(h.its i).1,fun v x hv hx=>?_⟩,fun i=>?_,hk h.kb (fun _ e=>by injection e with _ e;exact absurd e (by decide)),h.mK.block ((hk m3 (fun _ e=>by cases e)).trans m3.symm),h.lK⟩
 ·obtain ⟨hw,q,v',e,h1,h2,h3⟩:=(h.its i).2 v x hv hx
  by_cases hq:q = p
  ·subst hq
   rw [hp] at h3
   injection h3 with h3
   injection h3 with h3
   injection h3 with h3
   simp only [List.cons.injEq,and_true] at h3
   obtain ⟨rfl,rfl,rfl,rfl⟩:=h3
   refine ⟨hw,q,u',e,h1,h2,?_⟩
   have:=blk_set hp 3 u'
   simpa using this
  ·exact ⟨hw,q,v',e,h1,h2,(hfar hq).trans h3⟩
 ·exact AtV.move (h.ats i) (fun k cells hc=>(hk hc (fun _ e=>by injection e with _ e;exact absurd e (by decide))).trans hc.symm)
theorem FillR.store (h:FillR base sl gm w va DK DA) {p:Nat} (hp:p < base) (u:Value) (o:Nat):FillR base sl gm (w.setCell ⟨p,o,none⟩ u) va DK DA:=by
 have hrow:∀ {v:Value} {xs:List It4},RowIs w base v xs → RowIs (w.setCell ⟨p,o,none⟩ u) base v xs:=fun hv=>hv.keep (fun k e=>Below.heap_setCell w ⟨p,o,none⟩ u k (by have:=(hv.cells e).1;simp only;omega))
 exact ⟨fun p=>hrow (h.kids p),h.kap,hrow h.ra,h.aap⟩
theorem FillR.below (h:FillR base sl gm w va DK DA) (hb:Below w.heap.size w w'):FillR base sl gm w' va DK DA:=by
 have hrow:∀ {v:Value} {xs:List It4},RowIs w base v xs → RowIs w' base v xs:=fun hv=>hv.keep (fun k e=>hb.block k (hv.cells e).2.1)
 exact ⟨fun p=>hrow (h.kids p),h.kap,hrow h.ra,h.aap⟩
theorem FillB.put (h:FillB lo base B Bi Ba n Kb K r nk gi ga b left cnt gm w) {q:Int} {vn:Value} (hm:MapV w' K (nk + 1) (putV gm q vn) ) (hg:w.grownBy w' (some K)):FillB lo base B Bi Ba n Kb K r (nk + 1) gi ga b left cnt (putV gm q vn) w':=by
 obtain ⟨_,_,m1⟩:=h.rg.map.map
 obtain ⟨_,_,m2⟩:=h.ma.map
 obtain ⟨_,_,m3⟩:=h.mK.map
 obtain ⟨_,_,_,m4⟩:=h.rg.iter
 have hk:∀ {g:Nat} {o:Obj},w.heap[g]? = some o → g ≠ K → w'.heap[g]? = some o:=fun {g o} hgo ho=>(hg.block g (by obtain ⟨h,_⟩:=Array.getElem?_eq_some_iff.1 hgo;exact h) (fun e=>ho (by injection e))).trans hgo
 have ho:∀ {g:Nat} {o:Obj},w.heap[g]? = some o → (∀ a b,o ≠ .map a b) → g ≠ K:=fun {g o} hgo hne e=>by subst e;rw [m3] at hgo;exact hne _ _ (Option.some.inj hgo).symm
 refine ⟨hk h.blk (ho h.blk (fun _ _ e=>by cases e)),h.rg.block ((hk m1 (Ne.symm h.neI)).trans m1.symm) ((hk m4 (ho m4 (fun _ _ e=>by cases e))).trans m4.symm),h.ma.block ((hk m2 (Ne.symm h.neA)).trans m2.symm),h.neI,h.neA,fun i=>⟨(h.its i).1,fun v x hv hx=>?_⟩,fun i=>?_,hk h.kb (ho h.kb (fun _ _ e=>by cases e)),hm,h.lK⟩
 ·obtain ⟨hw,p,u,e,h1,h2,h3⟩:=(h.its i).2 v x hv hx
  exact ⟨hw,p,u,e,h1,h2,hk h3 (ho h3 (fun _ _ e=>by cases e))⟩
 ·exact AtV.move (h.ats i) (fun k cells hc=>(hk hc (ho hc (fun _ _ e=>by cases e))).trans hc.symm)
theorem putV_getD (g:Int → Option Value) (q:Int) (v z:Value) (p:Int):(putV g q v p).getD z = if p = q then v else (g p).getD z:=by
 unfold putV
 split <;> rfl
theorem FillR.appK (h:FillR base sl gm w va DK DA) {x:S87} {vn:Value} (hr:RowIs w' base vn ((DK.filter (fun y=>y.f1 == x.f1) ++ [x]).map (mk4 sl))) (hg:w.grownBy w' ((gm x.f1).getD (.slice none 0 0)).ownBlock) (hat:vn.ownBlock = ((gm x.f1).getD (.slice none 0 0)).ownBlock ∨ ∃ k,vn.ownBlock = some k ∧ w.heap.size ≤ k) :
 FillR base sl (putV gm x.f1 vn) w' va (DK ++ [x]) DA:=by
 have hrow:∀ {v:Value} {xs:List It4},RowIs w base v xs → (∀ k,((gm x.f1).getD (.slice none 0 0)).ownBlock = some k → v.ownBlock ≠ some k) → RowIs w' base v xs:=fun hv hk=>hv.keep (fun k e=>hg.block k (hv.cells e).2.1 (fun e'=>hk k e'.symm e))
 have hnew:∀ {v:Value} {xs:List It4},RowIs w base v xs → (∀ k,v.ownBlock = some k → ((gm x.f1).getD (.slice none 0 0)).ownBlock ≠ some k) → ∀ k,v.ownBlock = some k → vn.ownBlock ≠ some k:=by
  intro v xs hv hk k e e'
  rcases hat with hat | ⟨k',hat,hs⟩
  ·rw [hat] at e'
   exact hk k e e'
  ·rw [hat] at e'
   cases e'
   exact absurd (hv.cells e).2.1 (by omega)
 refine ⟨fun p=>?_,fun p q k hpq e=>?_,hrow h.ra (fun k e=>h.aap _ k e),fun p k e=>?_⟩
 ·rw [putV_getD,List.filter_append]
  by_cases hp:p = x.f1
  ·subst hp
   rw [if_pos rfl]
   simpa using hr
  ·rw [if_neg hp]
   have:([x].filter (fun y=>y.f1 == p)) = []:=by simp [Ne.symm hp]
   rw [this,List.append_nil]
   exact hrow (h.kids p) (fun k e=>h.kap _ _ k (Ne.symm hp) e)
 ·rw [putV_getD] at e ⊢
  by_cases hq:q = x.f1
  ·rw [if_pos hq]
   rw [if_neg (by rw [← hq];exact hpq)] at e
   exact hnew (h.kids p) (fun k e=>h.kap _ _ k (by rw [← hq];exact hpq) e) k e
  ·rw [if_neg hq]
   by_cases hp:p = x.f1
   ·rw [if_pos hp] at e
    intro e'
    exact hnew (h.kids q) (fun k e=>h.kap _ _ k hq e) k e' e
   ·rw [if_neg hp] at e
    exact h.kap _ _ k hpq e
 ·rw [putV_getD] at e
  by_cases hp:p = x.f1
  ·rw [if_pos hp] at e
   intro e'
   exact hnew h.ra (fun k h1 h2=>h.aap _ k h2 h1) k e' e
  ·rw [if_neg hp] at e
   exact h.aap _ k e
theorem FillR.mapped (h:FillR base sl gm w va DK DA) {m:Nat} {es:Array MapEntry} {c:Nat} (hm:w.heap[m]? = some (.map es c)) (hg:w.grownBy w' (some m)):FillR base sl gm w' va DK DA:=by
 have hrow:∀ {v:Value} {xs:List It4},RowIs w base v xs → RowIs w' base v xs:=fun hv=>hv.keep (fun k e=>by
  obtain ⟨_,_,cur,hc⟩:=hv.cells e
  exact grown_move hm hg _ _ _ hc)
 exact ⟨fun p=>hrow (h.kids p),h.kap,hrow h.ra,h.aap⟩
theorem FillR.appA (h:FillR base sl gm w va DK DA) {x:S87} {vn:Value} (hr:RowIs w' base vn ((DA ++ [x]).map (mk4 sl))) (hg:w.grownBy w' va.ownBlock) (hat:vn.ownBlock = va.ownBlock ∨ ∃ k,vn.ownBlock = some k ∧ w.heap.size ≤ k):FillR base sl gm w' vn DK (DA ++ [x]):=by
 have hrow:∀ {v:Value} {xs:List It4},RowIs w base v xs → (∀ k,va.ownBlock = some k → v.ownBlock ≠ some k) → RowIs w' base v xs:=fun hv hk=>hv.keep (fun k e=>hg.block k (hv.cells e).2.1 (fun e'=>hk k e'.symm e))
 refine ⟨fun p=>hrow (h.kids p) (fun k h1 h2=>h.aap p k h2 h1),h.kap,hr,fun p k e e'=>?_⟩
 rcases hat with hat | ⟨k',hat,hs⟩
 ·rw [hat] at e'
  exact h.aap p k e e'
 ·rw [hat] at e'
  cases e'
  exact absurd ((h.kids p).cells e).2.1 (by omega)
end
end Go.Proofs.Ytlcodfjlbhjkbaa.PDelta
end

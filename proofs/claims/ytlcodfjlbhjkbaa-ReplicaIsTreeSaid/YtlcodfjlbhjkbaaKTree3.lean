/- Parts of the proof of Tree: nothing is claimed here by itself. -/
import Derived.Test.YtlcodfjlbhjkbaaKTree2
import Derived.StillTailTactics
import Derived.Shelf.GgSortFunc.InsertionK
set_option linter.unusedVariables false
set_option linter.unusedSimpArgs false
section
namespace Go.Proofs.Ytlcodfjlbhjkbaa.PDelta
open Go.RowKit Go.Maps Go.Sort Go.Proofs.YtlcodfjlbhjkbaaW.PrintWords Go.Proofs.YtlcodfjlbhjkbaaW.PrintLast Go.Proofs.YtlcodfjlbhjkbaaW.PrintMore
theorem or2_calls (A:Option Addr) (c:Nat) (a b:Int) (w:World) (hr0:Kd.C (Kd.int .i64) w A 2 [a,b]) (hc0:2 ≤ c) :
 Calls Try.prog 111 #[.slice A 2 c] w fun e w'=>e = .returned (.int .i64 (orI a b)) ∧ Drawn0 w w' :=
 cmp_Or_int.calls 3 A c [a,b] _ w hr0 hc0 (or_f a b)
theorem lit2 (w:World) (a b:Int):Kd.C (Kd.int .i64) (w.alloc (Obj.cells #[.int .i64 a,.int .i64 b] 3)) (some ⟨w.heap.size,0,none⟩) 2 [a,b]:=by
 refine ⟨rfl,by decide,fun _=>⟨_,rfl,fun j p hj=>?_⟩⟩
 have hb:=blk_new w (.cells #[.int .i64 a,.int .i64 b] 3)
 match j,hj with
 | 0,hj =>
  obtain rfl:a = p:=by simpa using hj
  exact ⟨[.int .i64 a],rfl,rfl,fun i u hu=>by
   match i,hu with
   | 0,hu =>
    obtain rfl:_ = u:=by simpa using hu
    exact (blk_cell hb 0).trans rfl⟩
 | 1,hj =>
  obtain rfl:b = p:=by simpa using hj
  exact ⟨[.int .i64 b],rfl,rfl,fun i u hu=>by
   match i,hu with
   | 0,hu =>
    obtain rfl:_ = u:=by simpa using hu
    exact (blk_cell hb 1).trans rfl⟩
 | j + 2,hj=>simp at hj
set_option maxRecDepth 100000 in
set_option maxHeartbeats 4000000 in
theorem cmpp_calls (x y:It4) (w:World):Calls Try.prog 110 #[.agg (enc4 x).toArray,.agg (enc4 y).toArray] w fun e w'=>e = .returned (.int .i64 (cmpP x y)) ∧ Gr w w':=by
 unfold enc4 cmpP
 have HCS:Aside0 (∀ W,Calls Try.prog 112 #[.string x.s,.string y.s] W fun e w'=>e = .returned (.int .i64 (cmpS x.s y.s)) ∧ w' = W):=⟨cmps_calls x.s y.s⟩
 have HCI:Aside0 (cmp_Compare_int.f x.i y.i = some (cmpI x.i y.i)):=⟨cmpi_f _ _⟩
 generalize cmpS x.s y.s = cs at HCS ⊢
 generalize cmpI x.i y.i = ci at HCI ⊢
 go_enter Try.func110,Try.ntmps110
 go_upto_region 1 with (fail)
 obtain ⟨w1,hw1⟩:∃ W,W = w.alloc (Obj.cells #[.int .i64 x.i,.int .i64 x.p,.string x.s,.slice x.A x.n x.c] 87):=⟨_,rfl⟩
 obtain ⟨w2,hw2⟩:∃ W,W = w1.alloc (Obj.cells #[.int .i64 y.i,.int .i64 y.p,.string y.s,.slice y.A y.n y.c] 87):=⟨_,rfl⟩
 obtain ⟨ga,hga⟩:∃ g,g = w.heap.size:=⟨_,rfl⟩
 obtain ⟨gb,hgb⟩:∃ g,g = w.heap.size + 1:=⟨_,rfl⟩
 have hb1:w1.heap[ga]? = some (.cells #[.int .i64 x.i,.int .i64 x.p,.string x.s,.slice x.A x.n x.c] 87 (0,0)):=by rw [hw1,hga];exact blk_new w _
 have HA1:Aside0 (w2.heap[ga]? = some (.cells #[.int .i64 x.i,.int .i64 x.p,.string x.s,.slice x.A x.n x.c] 87 (0,0))):=⟨by rw [hw2];exact blk_alloc hb1 _⟩
 have hgb1:gb = w1.heap.size:=by rw [hgb,hw1];simp
 have HB1:Aside0 (w2.heap[gb]? = some (.cells #[.int .i64 y.i,.int .i64 y.p,.string y.s,.slice y.A y.n y.c] 87 (0,0))):=⟨by rw [hw2,hgb1];exact blk_new w1 _⟩
 have HG1:Aside0 (Gr w w2):=⟨by rw [hw2,hw1];exact (Gr.refl _).alloc _ |>.alloc _⟩
 have HA2:=Aside0.mk (blk_drew HA1.out)
 have HB2:=Aside0.mk (blk_drew HB1.out)
 have HG2:=Aside0.mk HG1.out.drew
 rw [← hw1,← hw2,← hgb,← hga]
 clear hw1 hw2 hga hgb hb1 hgb1 HA1 HB1 HG1
 refine start_ (n:=13) (S:=fun w'=>w'.cell? ⟨ga,2,none⟩ = some (.string x.s) ∧ w'.cell? ⟨gb,2,none⟩ = some (.string y.s) ∧ w'.cell? ⟨ga,0,none⟩ = some (.int .i64 x.i) ∧ w'.cell? ⟨gb,0,none⟩ = some (.int .i64 y.i)) (ds:=[]) #[false,false,false,false,false,false,false,false,false,false,false,false,false] (by kernel_rfl) rfl rfl ⟨((blk_cell HA2.out 2).trans rfl),((blk_cell HB2.out 2).trans rfl),((blk_cell HA2.out 0).trans rfl),((blk_cell HB2.out 0).trans rfl)⟩ (fun hHeld=>?_)
 refine pure_ (i:=0) (N:=some 5) (v:=?_) (a':=?_) (bm 1 13) rfl rfl (by kernel_rfl) (fun _ _ _ h=>h) (Or.inl ⟨by rfl,?_⟩) ?_ ?_
 rotate_left
 ·intro w'
  go_simp
  with_reducible rfl
 rotate_left
 ·simp only [Act.put,sA,sB,sC,i64_w,i32_w]
  rfl
 refine pure_ (i:=2) (N:=some 7) (v:=?_) (a':=?_) (bm 5 13) rfl rfl (by kernel_rfl) (fun _ _ _ h=>h) (Or.inl ⟨by rfl,?_⟩) ?_ ?_
 rotate_left
 ·intro w'
  go_simp
  with_reducible rfl
 rotate_left
 ·simp only [Act.put,sA,sB,sC,i64_w,i32_w]
  rfl
 refine pure_ (i:=5) (N:=some 10) (v:=?_) (a':=?_) (bm 37 13) rfl rfl (by kernel_rfl) (fun _ _ _ h=>h) (Or.inl ⟨by rfl,?_⟩) ?_ ?_
 rotate_left
 ·intro w'
  go_simp
  with_reducible rfl
 rotate_left
 ·simp only [Act.put,sA,sB,sC,i64_w,i32_w]
  rfl
 refine pure_ (i:=7) (N:=some 12) (v:=?_) (a':=?_) (bm 165 13) rfl rfl (by kernel_rfl) (fun _ _ _ h=>h) (Or.inl ⟨by rfl,?_⟩) ?_ ?_
 rotate_left
 ·intro w'
  go_simp
  with_reducible rfl
 rotate_left
 ·simp only [Act.put,sA,sB,sC,i64_w,i32_w]
  rfl
 refine take_ (i:=1) (N:=some 6) (v:=?_) (a':=?_) (bm 167 13) rfl rfl (by kernel_rfl) (fun _ _ _ h=>h) (Or.inl ⟨by rfl,?_⟩) hHeld ?_ ?_
 rotate_left
 ·rintro w' ⟨s0,s1,s2,s3⟩
  go_simp
  with_reducible rfl
 rotate_left
 ·simp only [Act.put,sA,sB,sC,i64_w,i32_w]
  rfl
 refine take_ (i:=3) (N:=some 8) (v:=?_) (a':=?_) (bm 175 13) rfl rfl (by kernel_rfl) (fun _ _ _ h=>h) (Or.inl ⟨by rfl,?_⟩) hHeld ?_ ?_
 rotate_left
 ·rintro w' ⟨s0,s1,s2,s3⟩
  go_simp
  with_reducible rfl
 rotate_left
 ·simp only [Act.put,sA,sB,sC,i64_w,i32_w]
  rfl
 refine take_ (i:=6) (N:=some 11) (v:=?_) (a':=?_) (bm 239 13) rfl rfl (by kernel_rfl) (fun _ _ _ h=>h) (Or.inl ⟨by rfl,?_⟩) hHeld ?_ ?_
 rotate_left
 ·rintro w' ⟨s0,s1,s2,s3⟩
  go_simp
  with_reducible rfl
 rotate_left
 ·simp only [Act.put,sA,sB,sC,i64_w,i32_w]
  rfl
 refine take_ (i:=8) (N:=some 13) (v:=?_) (a':=?_) (bm 495 13) rfl rfl (by kernel_rfl) (fun _ _ _ h=>h) (Or.inl ⟨by rfl,?_⟩) hHeld ?_ ?_
 rotate_left
 ·rintro w' ⟨s0,s1,s2,s3⟩
  go_simp
  with_reducible rfl
 rotate_left
 ·simp only [Act.put,sA,sB,sC,i64_w,i32_w]
  rfl
 refine one_ (i:=4) (N:=some 9) (bm 511 13) rfl rfl (by kernel_rfl) (by decide) (fun K hK=>?_)
 refine goes_ Try.func112 (by kernel_rfl) rfl #[.string x.s,.string y.s] (by rfl) rfl rfl (by simp only [List.map_toArray,List.map_cons,List.map_nil];rfl) ?_
 with_reducible refine (HCS.out _).mono ?_
 rintro e3 w3_ ⟨rfl,rfl⟩
 refine ⟨_,rfl,?_⟩
 refine hK.out _ _ ⟨((blk_cell HA2.out 2).trans rfl),((blk_cell HB2.out 2).trans rfl),((blk_cell HA2.out 0).trans rfl),((blk_cell HB2.out 0).trans rfl)⟩ (fun hHeld=>?_)
 clear hK K
 refine norm_ (a':=?_) ?_ ?_
 rotate_left
 ·show Act.put _ (some 9) _ = _
  simp only [Act.put,sA,sB,sC,i64_w,i32_w]
  rfl
 refine one_ (i:=9) (N:=some 14) (bm 1023 13) rfl rfl (by kernel_rfl) (by decide) (fun K hK=>?_)
 refine goes_ Try.func113 (by kernel_rfl) rfl #[.int .i64 x.i,.int .i64 y.i] (by rfl) rfl rfl (by simp only [List.map_toArray,List.map_cons,List.map_nil];rfl) ?_
 with_reducible refine (cmp_Compare_int.calls x.i y.i ci _ HCI.out).mono ?_
 rintro e4 w4_ ⟨rfl,hd4⟩
 refine ⟨_,rfl,?_⟩
 have HA4:=Aside0.mk ((hd4.below.block ga (blk_lt HA2.out)).trans HA2.out)
 have HB4:=Aside0.mk ((hd4.below.block gb (blk_lt HB2.out)).trans HB2.out)
 have HG4:=Aside0.mk (HG2.out.drawn hd4)
 clear hd4
 refine hK.out _ _ ⟨((blk_cell HA4.out 2).trans rfl),((blk_cell HB4.out 2).trans rfl),((blk_cell HA4.out 0).trans rfl),((blk_cell HB4.out 0).trans rfl)⟩ (fun hHeld=>?_)
 clear hK K
 refine norm_ (a':=?_) ?_ ?_
 rotate_left
 ·show Act.put _ (some 14) _ = _
  simp only [Act.put,sA,sB,sC,i64_w,i32_w]
  rfl
 refine one_ (i:=10) (N:=some 15) (bm 2047 13) rfl rfl (by kernel_rfl) (by decide) (fun K hK=>?_)
 refine value_ (w1:=?_) (v:=?_) (by rfl) rfl ?_ ?_
 rotate_left 2
 ·go_simp
  constructor
  ·rfl
  ·rfl
 have HA5:=Aside0.mk (blk_alloc HA4.out (Obj.cells #[.int .i64 cs,.int .i64 ci] 3))
 have HB5:=Aside0.mk (blk_alloc HB4.out (Obj.cells #[.int .i64 cs,.int .i64 ci] 3))
 have HG5:=Aside0.mk (HG4.out.alloc (Obj.cells #[.int .i64 cs,.int .i64 ci] 3))
 have HL5:=Aside0.mk (lit2 w4_ cs ci)
 refine hK.out _ _ ⟨((blk_cell HA5.out 2).trans rfl),((blk_cell HB5.out 2).trans rfl),((blk_cell HA5.out 0).trans rfl),((blk_cell HB5.out 0).trans rfl)⟩ (fun hHeld=>?_)
 clear hK K
 refine norm_ (a':=?_) ?_ ?_
 rotate_left
 ·show Act.put _ (some 15) _ = _
  simp only [Act.put,sA,sB,sC,i64_w,i32_w]
  rfl
 refine one_ (i:=11) (N:=some 16) (bm 4095 13) rfl rfl (by kernel_rfl) (by decide) (fun K hK=>?_)
 refine goes_ Try.func111 (by kernel_rfl) rfl #[.slice (some ⟨w4_.heap.size,0,none⟩) 2 2] (by rfl) rfl rfl (by simp only [List.map_toArray,List.map_cons,List.map_nil];rfl) ?_
 with_reducible refine (or2_calls (some ⟨w4_.heap.size,0,none⟩) 2 cs ci _ HL5.out (Nat.le_refl _)).mono ?_
 rintro e6 w6_ ⟨rfl,hd6⟩
 refine ⟨_,rfl,?_⟩
 have HA6:=Aside0.mk ((hd6.below.block ga (blk_lt HA5.out)).trans HA5.out)
 have HB6:=Aside0.mk ((hd6.below.block gb (blk_lt HB5.out)).trans HB5.out)
 have HG6:=Aside0.mk (HG5.out.drawn hd6)
 clear hd6
 refine hK.out _ _ ⟨((blk_cell HA6.out 2).trans rfl),((blk_cell HB6.out 2).trans rfl),((blk_cell HA6.out 0).trans rfl),((blk_cell HB6.out 0).trans rfl)⟩ (fun hHeld=>?_)
 clear hK K
 refine norm_ (a':=?_) ?_ ?_
 rotate_left
 ·show Act.put _ (some 16) _ = _
  simp only [Act.put,sA,sB,sC,i64_w,i32_w]
  rfl
 refine pure_ (i:=12) (N:=some 4) (v:=?_) (a':=?_) (bm 8191 13) rfl rfl (by kernel_rfl) (fun _ _ _ h=>h) (Or.inl ⟨by rfl,?_⟩) ?_ ?_
 rotate_left
 ·intro w'
  go_simp
  with_reducible rfl
 rotate_left
 ·simp only [Act.put,sA,sB,sC,i64_w,i32_w]
  rfl
 refine done_ (by kernel_rfl) ?_
 have HGE:=HG6
 clear hHeld HA6 HB6
 go_wp2
 go_ret
 exact ⟨rfl,HGE.out⟩
theorem enc4_len (x:It4):(enc4 x).length = 4:=rfl
theorem enc4_one (x:It4):∀ v ∈ enc4 x,v.oneCell' = true:=by
 intro v hv
 simp only [enc4,List.mem_cons,List.not_mem_nil,or_false] at hv
 rcases hv with rfl | rfl | rfl | rfl <;> rfl
def RowIs (w:World) (base:Nat) (v:Value) (xs:List It4):Prop:=w.ownsRow base 87 4 v xs.length (xs.flatMap enc4)
theorem flat_len (L:List It4):(L.flatMap enc4).length = L.length * 4:=by
 induction L with
 | nil=>rfl
 | cons x r ih=>rw [List.flatMap_cons,List.length_append,ih,enc4_len,List.length_cons];omega
theorem flat_get:∀ (L:List It4) (t:Nat),t < L.length * 4 → (L.flatMap enc4)[t]? = some ((enc4 L[t / 4]!)[t % 4]!)
 | [],t,h=>by simp at h
 | x :: r,t,h=>by
  rw [List.flatMap_cons]
  by_cases ht:t < 4
  ·rw [List.getElem?_append_left (by rw [enc4_len];exact ht)]
   have e1:t / 4 = 0:=by omega
   have e2:t % 4 = t:=by omega
   rw [e1,e2]
   have hl:t < (enc4 x).length:=by rw [enc4_len];exact ht
   rw [List.getElem?_eq_getElem hl]
   simp [hl]
  ·rw [List.getElem?_append_right (by rw [enc4_len];omega),enc4_len,flat_get r (t - 4) (by simp only [List.length_cons] at h;omega)]
   have e1:t / 4 = (t - 4) / 4 + 1:=by omega
   have e2:t % 4 = (t - 4) % 4:=by omega
   rw [e1,e2]
   simp
theorem flatK_list (L:List It4):(flatK enc4 4 L.toArray).toList = L.flatMap enc4:=by
 apply List.ext_getElem?
 intro t
 by_cases ht:t < L.length * 4
 ·rw [flat_get L t ht,Array.getElem?_toList]
  have hs:t < (flatK enc4 4 L.toArray).size:=by rw [size_flatK];simpa using ht
  rw [Array.getElem?_eq_getElem hs]
  have h2:=get_flatK enc4 4 L.toArray t (by simpa using ht)
  rw [getElem!_pos _ t hs] at h2
  rw [h2]
  simp
 ·rw [List.getElem?_eq_none (by rw [Array.length_toList,size_flatK];simpa using ht),List.getElem?_eq_none (by rw [flat_len];omega)]
theorem RowIs.holds {w:World} {base g n cap:Nat} {L:List It4} (h:RowIs w base (.slice (some ⟨g,0,none⟩) n cap) L):HoldsK enc4 4 w g 0 L.toArray ∧ g < w.heap.size ∧ n = L.length:=by
 rcases h.2 with ⟨h0,_⟩ | ⟨g',cap',cur,e,hb,hh,h1,h2,h3,h4⟩
 ·cases h0
 injection e with e1 e2 e3
 obtain rfl:g = g':=by injection e1 with e1;injection e1
 refine ⟨fun j hj=>?_,blk_lt hh,e2⟩
 rw [size_flatK] at hj
 have hj:j < L.length * 4:=by simpa using hj
 refine ⟨?_,by simp [World.frozen?,hh]⟩
 rw [Nat.zero_add,blk_cell hh j]
 have h5:(cur.toList.take (L.length * 4))[j]? = (L.flatMap enc4)[j]?:=by rw [h4]
 rw [List.getElem?_take_of_lt hj,Array.getElem?_toList,← flatK_list,Array.getElem?_toList] at h5
 rw [h5]
 have hs:j < (flatK enc4 4 L.toArray).size:=by rw [size_flatK];simpa using hj
 rw [Array.getElem?_eq_getElem hs,getElem!_pos _ j hs]
 rfl
theorem sorted_block {w:World} {g m:Nat} {os:Array Obj} {cur:Array Value} {e:TypeId} {fr:Nat × Nat} (d:Array It4) (hb:w.heap[g]? = some (.cells cur e fr)) :
 (sortWorldK enc4 4 w g 0 m d os).heap[g]? = some (.cells (putCells id 0 (flatK enc4 4 d) cur) e fr):=by
 have hg:g < w.heap.size:=blk_lt hb
 unfold sortWorldK putRowK
 rw [heap_grow_old _ _ (by simpa [putRow,mapBlock,Sort.ahead] using hg)]
 simp [putRow,mapBlock,Sort.ahead,Array.getElem?_modify,hb,onCells]
theorem sorted_grown {w:World} {g m:Nat} {os:Array Obj} (d:Array It4):w.grownBy (sortWorldK enc4 4 w g 0 m d os) (some g):=by
 unfold sortWorldK putRowK
 refine ⟨rfl,rfl,rfl,by simp [putRow,mapBlock,Sort.ahead],fun k hk hne=>?_⟩
 rw [heap_grow_old _ _ (by simpa [putRow,mapBlock,Sort.ahead] using hk)]
 have:g ≠ k:=fun e=>hne (by rw [e])
 simp [putRow,mapBlock,Sort.ahead,Array.getElem?_modify,this]
theorem RowIs.sorted {w:World} {base g n cap m:Nat} {L:List It4} {os:Array Obj} (h:RowIs w base (.slice (some ⟨g,0,none⟩) n cap) L) (d:Array It4) (hd:d.size = L.length) :
 RowIs (sortWorldK enc4 4 w g 0 m d os) base (.slice (some ⟨g,0,none⟩) n cap) d.toList:=by
 rcases h.2 with ⟨h0,_⟩ | ⟨g',cap',cur,e,hb,hh,h1,h2,h3,h4⟩
 ·cases h0
 injection e with e1 e2 e3
 obtain rfl:g = g':=by injection e1 with e1;injection e1
 subst e2 e3
 have hl:d.toList.length = L.length:=by simpa using hd
 refine ⟨flat_len _,.inr ⟨g,cap,_,by rw [hl],hb,sorted_block d hh,by rw [hl];exact h1,h2,by simpa [putCells] using h3,?_⟩⟩
 have h6:=flatK_list d.toList
 rw [Array.toArray_toList] at h6
 apply List.ext_getElem?
 intro j
 by_cases hj:j < d.toList.length * 4
 ·rw [List.getElem?_take_of_lt hj,Array.getElem?_toList,← h6,Array.getElem?_toList]
  have hs:j < (flatK enc4 4 d).size:=by rw [size_flatK];simpa using hj
  have hc:j < cur.size:=by rw [h3];rw [hl] at hj;omega
  have hs':j < d.size * 4:=by simpa using hj
  simp [putCells,hc,hs']
 ·rw [List.getElem?_eq_none (by rw [List.length_take];omega),List.getElem?_eq_none (by rw [flat_len];omega)]
def insB {α:Type} (lt:α → α → Bool) (x:α):List α → List α
 | []=>[x]
 | y :: r=>if lt y x = true then y :: insB lt x r else x :: y :: r
def sortB {α:Type} (lt:α → α → Bool):List α → List α
 | []=>[]
 | x :: r=>insB lt x (sortB lt r)
def ltP (x y:S87):Bool:=decide (orI (cmpS x.f2 y.f2) (cmpI x.f0 y.f0) < 0)
def ltN (x y:S87):Bool:=decide (cmpI x.f0 y.f0 < 0)
def kidsL (b:Brd) (p:Int):List S87:=b.its.filter (fun x=>x.f1 == p)
def kidsF (b:Brd) (p:Int):List S87:=sortB ltP (kidsL b p)
def visitF:Nat → Brd → Int → List S87 → Option (List S87)
 | 0,_,_,_=>none
 | k + 1,b,p,out=>(kidsF b p).foldlM (fun o x=>if o.length ≤ 1073741824 then visitF k b x.f0 (o ++ [x]) else none) out
def isIn (out:List S87) (i:Int):Bool:=out.any (fun x=>x.f0 == i)
def restF (b:Brd) (out:List S87):List S87:=(sortB ltN b.its).filter (fun x=>!isIn out x.f0)
def OpOK (o:S128):Prop:=(Lit.int .i64 o.f3).wf = true ∧ (Lit.int .i64 o.f4).wf = true
def rawC (k:Nat) (b:Brd):Option (List S87):=(visitF k b 0 []).bind fun out=>some ((out ++ restF b out).map fun x=>⟨x.f0,x.f1,x.f2,b.atD x.f0⟩)
def mk4 (sl:Int → Option Addr × Nat × Nat) (x:S87):It4:=⟨x.f0,x.f1,x.f2,(sl x.f0).1,(sl x.f0).2.1,(sl x.f0).2.2⟩
theorem RowIs.nil (w:World) (base:Nat):RowIs w base (.slice none 0 0) []:=⟨rfl,.inl ⟨rfl,rfl⟩⟩
theorem RowIs.keep {w w':World} {base:Nat} {v:Value} {xs:List It4} (h:RowIs w base v xs) (hm:∀ k,v.ownBlock = some k → w'.heap[k]? = w.heap[k]?):RowIs w' base v xs:=own_move h hm
theorem RowIs.cells {w:World} {base:Nat} {v:Value} {xs:List It4} (h:RowIs w base v xs) {k:Nat} (hk:v.ownBlock = some k):base ≤ k ∧ k < w.heap.size ∧ ∃ cur,w.heap[k]? = some (.cells cur 87 (0,0)):=by
 obtain ⟨cur,hc⟩:=own_typed h k hk
 exact ⟨own_base h k hk,own_lt h k hk,cur,hc⟩
theorem RowIs.slice {w:World} {base:Nat} {v:Value} {xs:List It4} (h:RowIs w base v xs):∃ A c,v = .slice A xs.length c ∧ xs.length ≤ c:=by
 rcases h.2 with ⟨h0,h1⟩ | ⟨g,cap,cur,e,_,_,h1,_⟩
 ·exact ⟨none,0,by rw [h0,h1],by omega⟩
 ·exact ⟨_,cap,e,h1⟩
theorem RowIs.ne {w:World} {base:Nat} {v:Value} {xs:List It4} (h:RowIs w base v xs) {g:Nat} {o:Obj} (hg:w.heap[g]? = some o) (ho:∀ cur,o ≠ .cells cur 87 (0,0)):v.ownBlock ≠ some g:=by
 intro e
 obtain ⟨_,_,cur,hc⟩:=h.cells e
 rw [hg] at hc
 exact ho cur (Option.some.inj hc)
structure WalkS (base K Kb Ob Sb Wb Sm nk:Nat) (gk:Int → Option Value) (sl:Int → Option Addr × Nat × Nat) (b:Brd) (va:Value) (D:List S87) (done:Int → Prop) (w:World) (vo:Value) (out:List S87) (gs:Int → Option Value):Prop where
 kb:w.heap[Kb]? = some (.cells #[.map (some K)] 179 (0,0))
 ob:w.heap[Ob]? = some (.cells #[vo] 70 (0,0))
 sb:w.heap[Sb]? = some (.cells #[.map (some Sm)] 133 (0,0))
 wb:w.heap[Wb]? = some (.cells #[.func (.func 108) #[] #[.pointer (some ⟨Kb,0,none⟩),.pointer (some ⟨Ob,0,none⟩),.pointer (some ⟨Sb,0,none⟩),.pointer (some ⟨Wb,0,none⟩)]] 174 (0,0))
 lO:base ≤ Ob
 lS:base ≤ Sm
 ne:K ≠ Sm
 mK:MapV w K nk gk
 ms:MapV w Sm out.length gs
 gsE:∀ i,gs i = if isIn out i = true then some (.bool true) else none
 kids:∀ p,∃ L,L.Perm (kidsL b p) ∧ (done p → L = kidsF b p) ∧ RowIs w base ((gk p).getD (.slice none 0 0)) (L.map (mk4 sl))
 kap:∀ p q k,p ≠ q → ((gk p).getD (.slice none 0 0)).ownBlock = some k → ((gk q).getD (.slice none 0 0)).ownBlock ≠ some k
 ro:RowIs w base vo (out.map (mk4 sl))
 oap:∀ p k,((gk p).getD (.slice none 0 0)).ownBlock = some k → vo.ownBlock ≠ some k
 ra:RowIs w base va (D.map (mk4 sl))
 aap:∀ p k,((gk p).getD (.slice none 0 0)).ownBlock = some k → va.ownBlock ≠ some k
 voa:∀ k,vo.ownBlock = some k → va.ownBlock ≠ some k
section
variable {base K Kb Ob Sb Wb Sm nk:Nat} {gk:Int → Option Value} {sl:Int → Option Addr × Nat × Nat} {b:Brd} {va:Value} {D:List S87} {done:Int → Prop} {w w':World} {vo:Value} {out:List S87} {gs:Int → Option Value}
theorem not87 {cur:Array Value} {t:TypeId} (h:t ≠ 87):∀ c,Obj.cells cur t (0,0) ≠ .cells c 87 (0,0):=fun c e=>h (by injection e)
theorem mapnot87 {es:Array MapEntry} {n:Nat}:∀ c,Obj.map es n ≠ .cells c 87 (0,0):=fun c e=>by cases e
theorem WalkS.below (h:WalkS base K Kb Ob Sb Wb Sm nk gk sl b va D done w vo out gs) (hb:Below w.heap.size w w'):WalkS base K Kb Ob Sb Wb Sm nk gk sl b va D done w' vo out gs where
 kb:=(hb.block _ (blk_lt h.kb)).trans h.kb
 ob:=(hb.block _ (blk_lt h.ob)).trans h.ob
 sb:=(hb.block _ (blk_lt h.sb)).trans h.sb
 wb:=(hb.block _ (blk_lt h.wb)).trans h.wb
 lO:=h.lO
 lS:=h.lS
 ne:=h.ne
 mK:=h.mK.block (hb.block _ h.mK.lt)
 ms:=h.ms.block (hb.block _ h.ms.lt)
 gsE:=h.gsE
 kids:=fun p=>by
  obtain ⟨L,h1,h2,h3⟩:=h.kids p
  exact ⟨L,h1,h2,h3.keep (fun k hk=>hb.block k (h3.cells hk).2.1)⟩
 kap:=h.kap
 ro:=h.ro.keep (fun k hk=>hb.block k (h.ro.cells hk).2.1)
 oap:=h.oap
 ra:=h.ra.keep (fun k hk=>hb.block k (h.ra.cells hk).2.1)
 aap:=h.aap
 voa:=h.voa
theorem WalkS.sorted (h:WalkS base K Kb Ob Sb Wb Sm nk gk sl b va D done w vo out gs) (p:Int) (hg:w.grownBy w' ((gk p).getD (.slice none 0 0)).ownBlock) (hr:RowIs w' base ((gk p).getD (.slice none 0 0)) ((kidsF b p).map (mk4 sl))) (hp:(kidsF b p).Perm (kidsL b p)) :
 WalkS base K Kb Ob Sb Wb Sm nk gk sl b va D (fun q=>done q ∨ q = p) w' vo out gs:=by
 obtain ⟨L0,_,_,h30⟩:=h.kids p
 have hcell:∀ {g:Nat} {cur:Array Value} {t:TypeId},w.heap[g]? = some (.cells cur t (0,0)) → t ≠ 87 → w'.heap[g]? = some (.cells cur t (0,0)):=fun hb ht=>(hg.block _ (blk_lt hb) (fun e=>h30.ne hb (not87 ht) e.symm)).trans hb
 have hmap:∀ {m:Nat} {es:Array MapEntry} {c:Nat},w.heap[m]? = some (.map es c) → w'.heap[m]? = w.heap[m]?:=fun hb=>hg.block _ (blk_lt hb) (fun e=>h30.ne hb mapnot87 e.symm)
 have hrow:∀ {v:Value} {xs:List It4},RowIs w base v xs → (∀ k,((gk p).getD (.slice none 0 0)).ownBlock = some k → v.ownBlock ≠ some k) → RowIs w' base v xs:=fun hv hk=>hv.keep (fun k e=>hg.block k (hv.cells e).2.1 (fun e'=>hk k e'.symm e))
 obtain ⟨_,_,m1⟩:=h.mK.map
 obtain ⟨_,_,m2⟩:=h.ms.map
 refine { h with kb:=hcell h.kb (by decide),ob:=hcell h.ob (by decide),sb:=hcell h.sb (by decide),wb:=hcell h.wb (by decide),mK:=h.mK.block (hmap m1),ms:=h.ms.block (hmap m2),kids:=fun q=>?_,ro:=hrow h.ro (h.oap p),ra:=hrow h.ra (h.aap p) }
 by_cases hq:q = p
 ·subst hq
  exact ⟨_,hp,fun _=>rfl,hr⟩
 ·obtain ⟨L,h1,h2,h3⟩:=h.kids q
  exact ⟨L,h1,fun hd=>h2 (hd.resolve_right hq),hrow h3 (fun k hk=>h.kap p q k (Ne.symm hq) hk)⟩
structure WalkA (base K Kb Ob Sb Wb Sm nk:Nat) (gk:Int → Option Value) (sl:Int → Option Addr × Nat × Nat) (b:Brd) (va:Value) (D:List S87) (done:Int → Prop) (w:World) (vo:Value) (out:List S87) (gs:Int → Option Value) (vn:Value) (x:S87):Prop where
 kb:w.heap[Kb]? = some (.cells #[.map (some K)] 179 (0,0))
 ob:w.heap[Ob]? = some (.cells #[vo] 70 (0,0))
 sb:w.heap[Sb]? = some (.cells #[.map (some Sm)] 133 (0,0))
 wb:w.heap[Wb]? = some (.cells #[.func (.func 108) #[] #[.pointer (some ⟨Kb,0,none⟩),.pointer (some ⟨Ob,0,none⟩),.pointer (some ⟨Sb,0,none⟩),.pointer (some ⟨Wb,0,none⟩)]] 174 (0,0))
 lO:base ≤ Ob
 lS:base ≤ Sm
 ne:K ≠ Sm
 mK:MapV w K nk gk
 ms:MapV w Sm out.length gs
 gsE:∀ i,gs i = if isIn out i = true then some (.bool true) else none
 kids:∀ p,∃ L,L.Perm (kidsL b p) ∧ (done p → L = kidsF b p) ∧ RowIs w base ((gk p).getD (.slice none 0 0)) (L.map (mk4 sl))
 kap:∀ p q k,p ≠ q → ((gk p).getD (.slice none 0 0)).ownBlock = some k → ((gk q).getD (.slice none 0 0)).ownBlock ≠ some k
 ro:RowIs w base vn ((out ++ [x]).map (mk4 sl))
 oap:∀ p k,((gk p).getD (.slice none 0 0)).ownBlock = some k → vn.ownBlock ≠ some k
 ra:RowIs w base va (D.map (mk4 sl))
 aap:∀ p k,((gk p).getD (.slice none 0 0)).ownBlock = some k → va.ownBlock ≠ some k
 voa:∀ k,vn.ownBlock = some k → va.ownBlock ≠ some k
theorem WalkS.append (h:WalkS base K Kb Ob Sb Wb Sm nk gk sl b va D done w vo out gs) {x:S87} {vn:Value} (hr:RowIs w' base vn ((out ++ [x]).map (mk4 sl))) (hg:w.grownBy w' vo.ownBlock) (hat:vn.ownBlock = vo.ownBlock ∨ ∃ k,vn.ownBlock = some k ∧ w.heap.size ≤ k) :
 WalkA base K Kb Ob Sb Wb Sm nk gk sl b va D done w' vo out gs vn x:=by
 have hcell:∀ {g:Nat} {cur:Array Value} {t:TypeId},w.heap[g]? = some (.cells cur t (0,0)) → t ≠ 87 → w'.heap[g]? = some (.cells cur t (0,0)):=fun hb ht=>(hg.block _ (blk_lt hb) (fun e=>h.ro.ne hb (not87 ht) e.symm)).trans hb
 have hmap:∀ {m:Nat} {es:Array MapEntry} {c:Nat},w.heap[m]? = some (.map es c) → w'.heap[m]? = w.heap[m]?:=fun hb=>hg.block _ (blk_lt hb) (fun e=>h.ro.ne hb mapnot87 e.symm)
 have hrow:∀ {v:Value} {xs:List It4},RowIs w base v xs → (∀ k,vo.ownBlock = some k → v.ownBlock ≠ some k) → RowIs w' base v xs:=fun hv hk=>hv.keep (fun k e=>hg.block k (hv.cells e).2.1 (fun e'=>hk k e'.symm e))
 obtain ⟨_,_,m1⟩:=h.mK.map
 obtain ⟨_,_,m2⟩:=h.ms.map
 have hnew:∀ {v:Value} {xs:List It4},RowIs w base v xs → (∀ k,v.ownBlock = some k → vo.ownBlock ≠ some k) → ∀ k,v.ownBlock = some k → vn.ownBlock ≠ some k:=by
  intro v xs hv hk k e e'
  rcases hat with hat | ⟨k',hat,hs⟩
  ·rw [hat] at e'
   exact hk k e e'
  ·rw [hat] at e'
   cases e'
   exact absurd (hv.cells e).2.1 (by omega)
 refine ⟨hcell h.kb (by decide),hcell h.ob (by decide),hcell h.sb (by decide),hcell h.wb (by decide),h.lO,h.lS,h.ne,h.mK.block (hmap m1),h.ms.block (hmap m2),h.gsE,fun q=>?_,h.kap,hr,fun p k e=>?_,hrow h.ra h.voa,h.aap,fun k e e'=>?_⟩
 ·obtain ⟨L,h1,h2,h3⟩:=h.kids q
  exact ⟨L,h1,h2,hrow h3 (fun k hk hq=>h.oap q k hq hk)⟩
 ·obtain ⟨L,h1,h2,h3⟩:=h.kids p
  exact hnew h3 (h.oap p) k e
 ·exact hnew h.ra (fun k h1 h2=>h.voa k h2 h1) k e' e
theorem WalkA.stored {x:S87} {vn:Value} (h:WalkA base K Kb Ob Sb Wb Sm nk gk sl b va D done w vo out gs vn x) :
 WalkA base K Kb Ob Sb Wb Sm nk gk sl b va D done (w.setCell ⟨Ob,0,none⟩ vn) vn out gs vn x:=by
 have hfar:∀ {g:Nat},g ≠ Ob → (w.setCell ⟨Ob,0,none⟩ vn).heap[g]? = w.heap[g]?:=fun hg=>Below.heap_setCell w ⟨Ob,0,none⟩ vn _ hg
 have hcell:∀ {g:Nat} {cur:Array Value} {t:TypeId},w.heap[g]? = some (.cells cur t (0,0)) → t ≠ 70 → (w.setCell ⟨Ob,0,none⟩ vn).heap[g]? = some (.cells cur t (0,0)):=fun hb ht=>(hfar (fun e=>by
  subst e
  rw [h.ob] at hb
  injection hb with hb
  injection hb with _ hb
  exact ht hb.symm)).trans hb
 have hmap:∀ {m:Nat} {es:Array MapEntry} {c:Nat},w.heap[m]? = some (.map es c) → (w.setCell ⟨Ob,0,none⟩ vn).heap[m]? = w.heap[m]?:=fun hb=>hfar (fun e=>by
  subst e
  rw [h.ob] at hb
  cases hb)
 have hrow:∀ {v:Value} {xs:List It4},RowIs w base v xs → RowIs (w.setCell ⟨Ob,0,none⟩ vn) base v xs:=fun hv=>hv.keep (fun k e=>hfar (fun e'=>hv.ne h.ob (not87 (by decide)) (by rw [e,e'])))
 obtain ⟨_,_,m1⟩:=h.mK.map
 obtain ⟨_,_,m2⟩:=h.ms.map
 refine { h with kb:=hcell h.kb (by decide),ob:=?_,sb:=hcell h.sb (by decide),wb:=hcell h.wb (by decide),mK:=h.mK.block (hmap m1),ms:=h.ms.block (hmap m2),kids:=fun q=>?_,ro:=hrow h.ro,ra:=hrow h.ra }
 ·have:=blk_set h.ob 0 vn
  simpa using this
 ·obtain ⟨L,h1,h2,h3⟩:=h.kids q
  exact ⟨L,h1,h2,hrow h3⟩
theorem isIn_snoc (out:List S87) (x:S87) (i:Int):isIn (out ++ [x]) i = (isIn out i || (x.f0 == i)):=by simp [isIn]
theorem WalkA.marked {x:S87} {vn:Value} (h:WalkA base K Kb Ob Sb Wb Sm nk gk sl b va D done w vn out gs vn x) (hm:MapV w' Sm (out.length + 1) (putV gs x.f0 (.bool true))) (hg:w.grownBy w' (some Sm)) :
 WalkS base K Kb Ob Sb Wb Sm nk gk sl b va D done w' vn (out ++ [x]) (putV gs x.f0 (.bool true)):=by
 obtain ⟨_,_,m2⟩:=h.ms.map
 have hcell:∀ {g:Nat} {cur:Array Value} {t:TypeId},w.heap[g]? = some (.cells cur t (0,0)) → w'.heap[g]? = some (.cells cur t (0,0)):=fun hb=>(grown_move m2 hg _ _ _ hb).trans hb
 have hrow:∀ {v:Value} {xs:List It4},RowIs w base v xs → RowIs w' base v xs:=fun hv=>hv.keep (fun k e=>by
  obtain ⟨_,_,cur,hc⟩:=hv.cells e
  exact grown_move m2 hg _ _ _ hc)
 refine ⟨hcell h.kb,hcell h.ob,hcell h.sb,hcell h.wb,h.lO,h.lS,h.ne,h.mK.kept hg (fun e=>h.ne (by cases e;rfl)),?_,fun i=>?_,fun q=>?_,h.kap,hrow h.ro,h.oap,hrow h.ra,h.aap,h.voa⟩
 ·rw [List.length_append]
  exact hm
 ·rw [isIn_snoc]
  unfold putV
  by_cases hi:i = x.f0
  ·subst hi
   simp
  ·have:(x.f0 == i) = false:=by simpa using Ne.symm hi
   rw [if_neg hi,h.gsE,this,Bool.or_false]
 ·obtain ⟨L,h1,h2,h3⟩:=h.kids q
  exact ⟨L,h1,h2,hrow h3⟩
end
end Go.Proofs.Ytlcodfjlbhjkbaa.PDelta
end
section
namespace Go.Proofs.Ytlcodfjlbhjkbaa.PDelta
open Go.RowKit Go.Proofs.YtlcodfjlbhjkbaaW.PrintWords Go.Proofs.YtlcodfjlbhjkbaaW.PrintLast Go.Proofs.YtlcodfjlbhjkbaaW.PrintMore
attribute [local go_sem] max2_int min2_int max_two min_two max_three min_three max_four min_four
attribute [local go_sem high] Go.Proofs.Ytlcodfjlbhjkbaa.Ord.leq_str Go.Proofs.Ytlcodfjlbhjkbaa.Ord.gtr_str Go.Proofs.Ytlcodfjlbhjkbaa.Ord.geq_str
end Go.Proofs.Ytlcodfjlbhjkbaa.PDelta
end
section
namespace Go.Proofs.Ytlcodfjlbhjkbaa.PDelta
open Go.RowKit Go.Proofs.YtlcodfjlbhjkbaaW.PrintWords Go.Proofs.YtlcodfjlbhjkbaaW.PrintLast Go.Proofs.YtlcodfjlbhjkbaaW.PrintMore
attribute [local go_sem] max2_int min2_int max_two min_two max_three min_three max_four min_four
attribute [local go_sem high] Go.Proofs.Ytlcodfjlbhjkbaa.Ord.leq_str Go.Proofs.Ytlcodfjlbhjkbaa.Ord.gtr_str Go.Proofs.Ytlcodfjlbhjkbaa.Ord.geq_str
attribute [local go_sem high] eqA91
end Go.Proofs.Ytlcodfjlbhjkbaa.PDelta
end
section
namespace Go.Proofs.Ytlcodfjlbhjkbaa.PDelta
open Go.RowKit Go.Proofs.YtlcodfjlbhjkbaaW.PrintWords Go.Proofs.YtlcodfjlbhjkbaaW.PrintLast Go.Proofs.YtlcodfjlbhjkbaaW.PrintMore
attribute [local go_sem] max2_int min2_int max_two min_two max_three min_three max_four min_four
attribute [local go_sem high] Go.Proofs.Ytlcodfjlbhjkbaa.Ord.leq_str Go.Proofs.Ytlcodfjlbhjkbaa.Ord.gtr_str Go.Proofs.Ytlcodfjlbhjkbaa.Ord.geq_str
end Go.Proofs.Ytlcodfjlbhjkbaa.PDelta
end
section
namespace Go.Proofs.Ytlcodfjlbhjkbaa.PDelta
open Go.RowKit Go.Proofs.YtlcodfjlbhjkbaaW.PrintWords Go.Proofs.YtlcodfjlbhjkbaaW.PrintLast Go.Proofs.YtlcodfjlbhjkbaaW.PrintMore
attribute [local go_sem] max2_int min2_int max_two min_two max_three min_three max_four min_four
attribute [local go_sem high] Go.Proofs.Ytlcodfjlbhjkbaa.Ord.leq_str Go.Proofs.Ytlcodfjlbhjkbaa.Ord.gtr_str Go.Proofs.Ytlcodfjlbhjkbaa.Ord.geq_str
attribute [local go_sem high] eqA91
end Go.Proofs.Ytlcodfjlbhjkbaa.PDelta
end
section
namespace Go.Proofs.Ytlcodfjlbhjkbaa.PDelta
open Go.RowKit Go.Proofs.YtlcodfjlbhjkbaaW.PrintWords Go.Proofs.YtlcodfjlbhjkbaaW.PrintLast Go.Proofs.YtlcodfjlbhjkbaaW.PrintMore
attribute [local go_sem] max2_int min2_int max_two min_two max_three min_three max_four min_four
attribute [local go_sem high] Go.Proofs.Ytlcodfjlbhjkbaa.Ord.leq_str Go.Proofs.Ytlcodfjlbhjkbaa.Ord.gtr_str Go.Proofs.Ytlcodfjlbhjkbaa.Ord.geq_str
def chanceryref1_Within.f (a0:Int) (a1:Int) (a2:Int):Option (Int):=if (wrap64 ((wrap64 (a2 - a1)) + 1)) = 0 then (none) else (some (wrap64 (a1 + (Int.tmod (wrap64 ((Int.tmod a0 (wrap64 ((wrap64 (a2 - a1)) + 1))) + (wrap64 ((wrap64 (a2 - a1)) + 1)))) (wrap64 ((wrap64 (a2 - a1)) + 1))))))
set_option maxHeartbeats 8000000 in
set_option maxRecDepth 100000 in
theorem chanceryref1_Within.calls (a0:Int) (a1:Int) (a2:Int) (r:Int) (w:World) (h:chanceryref1_Within.f a0 a1 a2 = some r) :
 Calls Try.prog 20 #[.int .i64 a0,.int .i64 a1,.int .i64 a2] w fun e w'=>e = .returned (.int .i64 r) ∧ Drawn0 w w':=by
 have H:(if (wrap64 ((wrap64 (a2 - a1)) + 1)) = 0 then (none) else (some (wrap64 (a1 + (Int.tmod (wrap64 ((Int.tmod a0 (wrap64 ((wrap64 (a2 - a1)) + 1))) + (wrap64 ((wrap64 (a2 - a1)) + 1)))) (wrap64 ((wrap64 (a2 - a1)) + 1))))))) = some r:=h
 clear h
 by_cases c4:(wrap64 ((wrap64 (a2 - a1)) + 1)) = 0
 ·rw [if_pos c4] at H
  exact absurd H (by simp)
 ·rw [if_neg c4] at H
  have c4b0:((wrap64 ((wrap64 (a2 - a1)) + 1)) == 0) = false:=beq_eq_false_iff_ne.mpr c4
  have c4b1:((wrap64 ((wrap64 (a2 - a1)) + 1)) != 0) = true:=bne_iff_ne.mpr c4
  obtain rfl:=Option.some.inj H
  go_enter Try.func20,Try.ntmps20
  go_wp2
  go_ret
  exact ⟨by rfl,by repeat (exact Drawn0.refl _)⟩
end Go.Proofs.Ytlcodfjlbhjkbaa.PDelta
end
section
namespace Go.Proofs.Ytlcodfjlbhjkbaa.PDelta
open Go.RowKit Go.Proofs.YtlcodfjlbhjkbaaW.PrintWords Go.Proofs.YtlcodfjlbhjkbaaW.PrintLast Go.Proofs.YtlcodfjlbhjkbaaW.PrintMore
theorem wrap_up {i:Int} (h0:0 ≤ i) (h:i ≤ 1099511627776):wrap64 (i + 1) = i + 1:=by unfold wrap64;omega
def chOK (first:Prop) (c:Int):Prop:=(97 ≤ c ∧ c ≤ 122) ∨ (¬ first ∧ (c = 46 ∨ c = 45 ∨ (48 ≤ c ∧ c ≤ 57)))
def NameOK (s:ByteArray):Prop:=1 ≤ s.size ∧ s.size ≤ 24 ∧ ∀ i:Int,0 ≤ i → i < s.size → chOK (i = 0) (bt s i)
def ValOK (s:ByteArray):Prop:=1 ≤ s.size ∧ s.size ≤ 200 ∧ ∀ i:Int,0 ≤ i → i < s.size → 32 ≤ bt s i ∧ bt s i ≤ 126
theorem size_list (s:ByteArray):s.toList.length = s.size:=by rw [ByteArray.toList_eq];rfl
theorem list_nil {s:ByteArray}:s.toList = [] ↔ s.size = 0:=by rw [← size_list,List.length_eq_zero_iff]
theorem name_l0 (s:ByteArray) (hs:s.size ≤ 1099511627776) (d:Nat):∀ (k:Nat) (i:Int),0 ≤ i → i ≤ s.size → (s.size:Int) - i = d → d < k →
 ∃ b,attr_Name.l0 k s (s.size:Int) i = some b ∧ (b = true ↔ ∀ j:Int,i ≤ j → j < s.size → chOK False (bt s j)):=by
 induction d with
 | zero =>
  intro k i h0 h1 hd hk
  obtain ⟨k,rfl⟩:∃ m,k = m + 1:=⟨k - 1,by omega⟩
  simp only [attr_Name.l0]
  rw [if_neg (by omega)]
  exact ⟨true,rfl,⟨fun _ j h2 h3=>by omega,fun _=>rfl⟩⟩
 | succ d ih =>
  intro k i h0 h1 hd hk
  obtain ⟨k,rfl⟩:∃ m,k = m + 1:=⟨k - 1,by omega⟩
  have hlt:i < (s.size:Int):=by omega
  by_cases hc:chOK False (bt s i)
  ·have e:attr_Name.l0 (k + 1) s (s.size:Int) i = attr_Name.l0 k s (s.size:Int) (i + 1):=by
    simp only [attr_Name.l0]
    rw [if_pos hlt,if_pos h0,if_pos hlt,wrap_up h0 (by omega)]
    unfold chOK at hc
    repeat' (first | rfl | split)
    all_goals (exfalso;omega)
   obtain ⟨b,hb,hi⟩:=ih k (i + 1) (by omega) (by omega) (by omega) (by omega)
   refine ⟨b,e.trans hb,hi.trans ⟨fun h j h2 h3=>?_,fun h j h2 h3=>h j (by omega) h3⟩⟩
   rcases Int.lt_or_eq_of_le h2 with h4 | h4
   ·exact h j (by omega) h3
   ·subst h4;exact hc
  ·refine ⟨false,?_,⟨(fun h=>by cases h),(fun h=>absurd (h i (Int.le_refl _) hlt) hc)⟩⟩
   have hc':¬ ((97 ≤ bt s i ∧ bt s i ≤ 122) ∨ (bt s i = 46 ∨ bt s i = 45 ∨ (48 ≤ bt s i ∧ bt s i ≤ 57))):=fun h=>hc (h.imp id (fun h=>⟨id,h⟩))
   clear hc
   simp only [attr_Name.l0]
   rw [if_pos hlt,if_pos h0,if_pos hlt]
   repeat' (first | rfl | split)
   all_goals (exfalso;omega)
theorem name_ev (s:ByteArray) (hs:s.size ≤ 1099511627776):∃ b,Ev (fun k=>attr_Name.f k s) b ∧ (b = true ↔ NameOK s):=by
 have bad:∀ k,attr_Name.j0 (k + 1) s true = some false:=fun k=>by simp only [attr_Name.j0];rw [if_pos trivial]
 have fls:¬ NameOK s → attr_Name.f 1 s = some false → ∃ b,Ev (fun k=>attr_Name.f k s) b ∧ (b = true ↔ NameOK s):=fun h e=>⟨false,Ev.of (fun k=>attr_Name.mono s k) e,⟨(fun h=>by cases h),(fun h'=>absurd h' h)⟩⟩
 by_cases h0:s.size = 0
 ·exact fls (fun h=>by have:=h.1;omega) (by simp only [attr_Name.f];rw [if_pos (list_nil.2 h0)];exact bad 0)
 have hn:¬ s.toList = []:=fun h=>h0 (list_nil.1 h)
 by_cases h1:(s.size:Int) > 24
 ·exact fls (fun h=>by have:=h.2.1;omega) (by simp only [attr_Name.f];rw [if_neg hn,if_pos h1];exact bad 0)
 by_cases h2:bt s 0 < 97
 ·exact fls (fun h=>by have:=h.2.2 0 (Int.le_refl _) (by omega);unfold chOK at this;simp at this;omega) (by simp only [attr_Name.f];rw [if_neg hn,if_neg h1,if_pos (by omega),if_pos h2];exact bad 0)
 by_cases h3:bt s 0 > 122
 ·exact fls (fun h=>by have:=h.2.2 0 (Int.le_refl _) (by omega);unfold chOK at this;simp at this;omega) (by simp only [attr_Name.f];rw [if_neg hn,if_neg h1,if_pos (by omega),if_neg h2,decide_eq_true h3];exact bad 0)
 obtain ⟨b,hb,hi⟩:=name_l0 s hs s.size (s.size + 1) 0 (by omega) (by omega) (by omega) (by omega)
 refine ⟨b,Ev.of (fun k=>attr_Name.mono s k) (k:=s.size + 2) ?_,hi.trans ⟨fun h=>⟨by omega,by omega,fun j a1 a2=>?_⟩,fun h j a1 a2=>?_⟩⟩
 ·simp only [attr_Name.f]
  rw [if_neg hn,if_neg h1,if_pos (by omega),if_neg h2,decide_eq_false h3]
  simp only [attr_Name.j0]
  rw [if_neg (by decide)]
  exact hb
 ·rcases h j a1 a2 with h4 | ⟨_,h4⟩
  ·exact .inl h4
  ·by_cases hj:j = 0
   ·subst hj
    exact .inl (by omega)
   ·exact .inr ⟨hj,h4⟩
 ·rcases h.2.2 j a1 a2 with h4 | ⟨_,h4⟩
  ·exact .inl h4
  ·exact .inr ⟨id,h4⟩
theorem val_l0 (s:ByteArray) (hs:s.size ≤ 1099511627776) (d:Nat):∀ (k:Nat) (i:Int),0 ≤ i → i ≤ s.size → (s.size:Int) - i = d → d < k →
 ∃ b,attr_Value.l0 k s (s.size:Int) i = some b ∧ (b = true ↔ ∀ j:Int,i ≤ j → j < s.size → 32 ≤ bt s j ∧ bt s j ≤ 126):=by
 induction d with
 | zero =>
  intro k i h0 h1 hd hk
  obtain ⟨k,rfl⟩:∃ m,k = m + 1:=⟨k - 1,by omega⟩
  simp only [attr_Value.l0]
  rw [if_neg (by omega)]
  exact ⟨true,rfl,⟨fun _ j h2 h3=>by omega,fun _=>rfl⟩⟩
 | succ d ih =>
  intro k i h0 h1 hd hk
  obtain ⟨k,rfl⟩:∃ m,k = m + 1:=⟨k - 1,by omega⟩
  have hlt:i < (s.size:Int):=by omega
  by_cases hc:32 ≤ bt s i ∧ bt s i ≤ 126
  ·have e:attr_Value.l0 (k + 1) s (s.size:Int) i = attr_Value.l0 k s (s.size:Int) (i + 1):=by
    simp only [attr_Value.l0]
    rw [if_pos hlt,if_pos h0,if_pos hlt,wrap_up h0 (by omega),if_neg (by omega),if_neg (by omega)]
   obtain ⟨b,hb,hi⟩:=ih k (i + 1) (by omega) (by omega) (by omega) (by omega)
   refine ⟨b,e.trans hb,hi.trans ⟨fun h j h2 h3=>?_,fun h j h2 h3=>h j (by omega) h3⟩⟩
   rcases Int.lt_or_eq_of_le h2 with h4 | h4
   ·exact h j (by omega) h3
   ·subst h4;exact hc
  ·refine ⟨false,?_,⟨(fun h=>by cases h),(fun h=>absurd (h i (Int.le_refl _) hlt) hc)⟩⟩
   simp only [attr_Value.l0]
   rw [if_pos hlt,if_pos h0,if_pos hlt]
   repeat' (first | rfl | split)
   all_goals (exfalso;omega)
theorem val_ev (s:ByteArray) (hs:s.size ≤ 1099511627776):∃ b,Ev (fun k=>attr_Value.f k s) b ∧ (b = true ↔ ValOK s):=by
 have bad:∀ k,attr_Value.j0 (k + 1) s true = some false:=fun k=>by simp only [attr_Value.j0];rw [if_pos trivial]
 have fls:¬ ValOK s → attr_Value.f 1 s = some false → ∃ b,Ev (fun k=>attr_Value.f k s) b ∧ (b = true ↔ ValOK s):=fun h e=>⟨false,Ev.of (fun k=>attr_Value.mono s k) e,⟨(fun h=>by cases h),(fun h'=>absurd h' h)⟩⟩
 by_cases h0:s.size = 0
 ·exact fls (fun h=>by have:=h.1;omega) (by simp only [attr_Value.f];rw [if_pos (list_nil.2 h0)];exact bad 0)
 have hn:¬ s.toList = []:=fun h=>h0 (list_nil.1 h)
 by_cases h1:(s.size:Int) > 200
 ·exact fls (fun h=>by have:=h.2.1;omega) (by simp only [attr_Value.f];rw [if_neg hn,decide_eq_true h1];exact bad 0)
 obtain ⟨b,hb,hi⟩:=val_l0 s hs s.size (s.size + 1) 0 (by omega) (by omega) (by omega) (by omega)
 refine ⟨b,Ev.of (fun k=>attr_Value.mono s k) (k:=s.size + 2) ?_,hi.trans ⟨fun h=>⟨by omega,by omega,h⟩,fun h=>h.2.2⟩⟩
 simp only [attr_Value.f]
 rw [if_neg hn,decide_eq_false h1]
 simp only [attr_Value.j0]
 rw [if_neg (by decide)]
 exact hb
def CharOK (c:Int):Prop:=c = 9 ∨ c = 10 ∨ (32 ≤ c ∧ c ≤ 126) ∨ (160 ≤ c ∧ c ≤ 55295) ∨ (57344 ≤ c ∧ c ≤ 1114111)
instance (c:Int):Decidable (CharOK c):=by unfold CharOK;infer_instance
theorem within_ev (v hi:Int) (h1:0 ≤ hi) (h2:hi ≤ 1099511627776):∃ r,chanceryref1_Within.f v 0 hi = some r ∧ 0 ≤ r ∧ r ≤ hi:=by
 have wm:∀ {i:Int},0 ≤ i → i ≤ 4611686018427387904 → wrap64 i = i:=fun {i} a b=>by unfold wrap64;omega
 unfold chanceryref1_Within.f
 rw [show wrap64 (hi - 0) = hi - 0 from wm (by omega) (by omega),show wrap64 (hi - 0 + 1) = hi - 0 + 1 from wm (by omega) (by omega),if_neg (by omega)]
 obtain ⟨n,hn⟩:∃ n,n = hi - 0 + 1:=⟨_,rfl⟩
 rw [← hn]
 refine ⟨_,rfl,?_⟩
 have h3:-n < Int.tmod v n ∧ Int.tmod v n < n:=⟨Int.lt_tmod_of_pos v (by omega),Int.tmod_lt_of_pos v (by omega)⟩
 have h4:wrap64 (Int.tmod v n + n) = Int.tmod v n + n:=wm (by omega) (by omega)
 rw [h4]
 have h5:0 ≤ Int.tmod (Int.tmod v n + n) n:=Int.tmod_nonneg _ (by omega)
 have h6:Int.tmod (Int.tmod v n + n) n < n:=Int.tmod_lt_of_pos _ (by omega)
 rw [wm (by omega) (by omega)]
 omega
def mrg (E:S91 → S91 → Option S91):List S91 → List S91 → List S91
 | [],[]=>[]
 | x :: a,[]=>(E x nil91).toList ++ mrg E a []
 | [],y :: b=>(E nil91 y).toList ++ mrg E [] b
 | x :: a,y :: b=>if ltS x y = true then (E x nil91).toList ++ mrg E a (y :: b) else if ltS y x = true then (E nil91 y).toList ++ mrg E (x :: a) b else (E x y).toList ++ mrg E a b
termination_by a b=>a.length + b.length
theorem bothL_mrg (V:List S91 → S91 → S91 → List S91) (E:S91 → S91 → Option S91) (h:∀ o x y,V o x y = o ++ (E x y).toList):∀ (a b o:List S91),bothL V o a b = o ++ mrg E a b:=by
 intro a b
 induction a,b using mrg.induct with
 | case1=>intro o;rw [bothL,mrg,List.append_nil]
 | case2 x a ih=>intro o;rw [bothL,mrg,ih,h];exact List.append_assoc _ _ _
 | case3 y b ih=>intro o;rw [bothL,mrg,ih,h];exact List.append_assoc _ _ _
 | case4 x a y b hlt ih=>intro o;rw [bothL,mrg,if_pos hlt,if_pos hlt,ih,h];exact List.append_assoc _ _ _
 | case5 x a y b hlt hlt' ih=>intro o;rw [bothL,mrg,if_neg hlt,if_neg hlt,if_pos hlt',if_pos hlt',ih,h];exact List.append_assoc _ _ _
 | case6 x a y b hlt hlt' ih=>intro o;rw [bothL,mrg,if_neg hlt,if_neg hlt,if_neg hlt',if_neg hlt',ih,h];exact List.append_assoc _ _ _
theorem mrg_len (E:S91 → S91 → Option S91):∀ a b:List S91,(mrg E a b).length ≤ a.length + b.length:=by
 have o1:∀ o:Option S91,o.toList.length ≤ 1:=fun o=>by cases o <;> simp
 intro a b
 induction a,b using mrg.induct with
 | case1=>rw [mrg];simp
 | case2 x a ih=>rw [mrg,List.length_append];have:=o1 (E x nil91);simp only [List.length_cons,List.length_nil] at *;omega
 | case3 y b ih=>rw [mrg,List.length_append];have:=o1 (E nil91 y);simp only [List.length_cons,List.length_nil] at *;omega
 | case4 x a y b hlt ih=>rw [mrg,if_pos hlt,List.length_append];have:=o1 (E x nil91);simp only [List.length_cons,List.length_nil] at *;omega
 | case5 x a y b hlt hlt' ih=>rw [mrg,if_neg hlt,if_pos hlt',List.length_append];have:=o1 (E nil91 y);simp only [List.length_cons,List.length_nil] at *;omega
 | case6 x a y b hlt hlt' ih=>rw [mrg,if_neg hlt,if_neg hlt',List.length_append];have:=o1 (E x y);simp only [List.length_cons] at *;omega
def rawE (x y:S91):Option S91:=if y.f0.toList = [] then some x else if y.f1.toList = [] then none else some y
theorem fold_mrg {V:List S91 → S91 → S91 → List S91} {E:S91 → S91 → Option S91} (h:∀ o x y,V o x y = o ++ (E x y).toList) (a b:List S91):bothL V [] a b = mrg E a b:=by rw [bothL_mrg V E h,List.nil_append]
theorem rawV_E (o:List S91) (x y:S91):rawV o x y = o ++ (rawE x y).toList:=by
 unfold rawV rawE
 by_cases h1:y.f0.toList = []
 ·rw [if_pos h1,if_pos h1];rfl
 ·rw [if_neg h1,if_neg h1]
  by_cases h2:y.f1.toList = []
  ·rw [if_pos h2,if_pos h2];exact (List.append_nil _).symm
  ·rw [if_neg h2,if_neg h2];rfl
theorem raw_f {a b:List S91} (ha:a.length ≤ 1073741824) (hb:b.length ≤ 1073741824):attr_Raw.f a b = some (mrg rawE a b):=by
 unfold attr_Raw.f;rw [if_pos (by omega),fold_mrg rawV_E]
end Go.Proofs.Ytlcodfjlbhjkbaa.PDelta
end
section
namespace Go.Proofs.Ytlcodfjlbhjkbaa.PDelta
open Go.RowKit Go.Maps Go.Sort Go.Proofs.YtlcodfjlbhjkbaaW.PrintWords Go.Proofs.YtlcodfjlbhjkbaaW.PrintLast Go.Proofs.YtlcodfjlbhjkbaaW.PrintMore
theorem raw_f' {a b:List S91} (ha:a.length ≤ 1073741824) (hb:b.length ≤ 1073741824):∃ r,attr_Raw.f a b = some r ∧ r.length ≤ a.length + b.length:=⟨_,raw_f ha hb,mrg_len _ _ _⟩
inductive Dp (b:Brd):Int → Nat → Prop
 | stop {i:Int}:i ≤ 0 → Dp b i 0
 | gone {i:Int}:0 < i → b.it i = none → Dp b i 0
 | up {i:Int} {x:S87} {n:Nat}:0 < i → b.it i = some x → Dp b x.f1 n → Dp b i (n + 1)
theorem Dp.uniq {b:Brd} {i:Int} {n m:Nat} (h:Dp b i n) (h':Dp b i m):n = m:=by
 induction h generalizing m with
 | stop hi =>
  cases h' with
  | stop _=>rfl
  | gone _ _=>rfl
  | up h0 _ _=>omega
 | gone h0 hn =>
  cases h' with
  | stop _=>rfl
  | gone _ _=>rfl
  | up _ h1 _=>rw [hn] at h1;cases h1
 | up h0 hx _ ih =>
  cases h' with
  | stop _=>omega
  | gone _ h1=>rw [hx] at h1;cases h1
  | up _ h1 h2 =>
   rw [hx] at h1
   cases h1
   rw [ih h2]
theorem Dp.belowE {b:Brd} {i:Int} {n:Nat} (h:Dp b i n) (top:Int):∃ r,belowF (n + 1) b i top = some r:=by
 induction h with
 | stop hi=>exact ⟨false,by unfold belowF;rw [if_neg (by omega)]⟩
 | gone h0 hn =>
  unfold belowF
  rw [if_pos h0,hn]
  split
  ·exact ⟨_,rfl⟩
  ·exact ⟨_,rfl⟩
 | up h0 hx _ ih =>
  obtain ⟨r,hr⟩:=ih
  unfold belowF
  rw [if_pos h0,hx]
  split
  ·exact ⟨_,rfl⟩
  ·exact ⟨r,hr⟩
theorem below_mono (b:Brd) (top:Int):∀ (k:Nat) (i:Int) (r:Bool),belowF k b i top = some r → belowF (k + 1) b i top = some r
 | 0,i,r,h=>by cases h
 | k + 1,i,r,h=>by
  unfold belowF at h ⊢
  by_cases h0:0 < i
  ·rw [if_pos h0] at h ⊢
   by_cases h1:i = top
   ·rw [if_pos h1] at h ⊢;exact h
   ·rw [if_neg h1] at h ⊢
    cases hx:b.it i with
    | none=>rw [hx] at h;exact h
    | some x=>rw [hx] at h;exact below_mono b top k x.f1 r h
  ·rw [if_neg h0] at h ⊢;exact h
theorem below_le {b:Brd} {top i:Int} {k m:Nat} {r:Bool} (h:belowF k b i top = some r) (hm:k ≤ m):belowF m b i top = some r:=by
 induction hm with
 | refl=>exact h
 | step _ ih=>exact below_mono _ _ _ _ _ ih
theorem Dp.keep {b:Brd} {i:Int} {n:Nat} (h:Dp b i n) (x:S87):∀ k,belowF k b i x.f0 = some false → Dp (b.putIt x) i n:=by
 induction h with
 | stop hi=>intro k _;exact .stop hi
 | @gone i h0 hn =>
  intro k hk
  cases k with
  | zero=>cases hk
  | succ k =>
   unfold belowF at hk
   rw [if_pos h0] at hk
   by_cases h1:i = x.f0
   ·rw [if_pos h1] at hk;cases hk
   ·exact .gone h0 (by rw [it_putIt,if_neg h1];exact hn)
 | @up i y n h0 hy _ ih =>
  intro k hk
  cases k with
  | zero=>cases hk
  | succ k =>
   unfold belowF at hk
   rw [if_pos h0] at hk
   by_cases h1:i = x.f0
   ·rw [if_pos h1] at hk;cases hk
   ·rw [if_neg h1,hy] at hk
    exact .up h0 (by rw [it_putIt,if_neg h1];exact hy) (ih k hk)
theorem Dp.put {b:Brd} {x:S87} (hx:0 < x.f0) {m:Nat} (hp:Dp (b.putIt x) x.f1 m) {i:Int} {n:Nat} (h:Dp b i n):∃ n',Dp (b.putIt x) i n':=by
 induction h with
 | stop hi=>exact ⟨0,.stop hi⟩
 | @gone i h0 hn =>
  by_cases h1:i = x.f0
  ·exact ⟨m + 1,.up h0 (by rw [it_putIt,if_pos h1]) hp⟩
  ·exact ⟨0,.gone h0 (by rw [it_putIt,if_neg h1];exact hn)⟩
 | @up i y n h0 hy _ ih =>
  by_cases h1:i = x.f0
  ·exact ⟨m + 1,.up h0 (by rw [it_putIt,if_pos h1]) hp⟩
  ·obtain ⟨n',h'⟩:=ih
   exact ⟨n' + 1,.up h0 (by rw [it_putIt,if_neg h1];exact hy) h'⟩
theorem Dp.putAt {b:Brd} {j:Int} {v:List S91} {i:Int} {n:Nat} (h:Dp b i n):Dp (b.putAt j v) i n:=by
 induction h with
 | stop hi=>exact .stop hi
 | gone h0 hn=>exact .gone h0 hn
 | up h0 hy _ ih=>exact .up h0 hy ih
structure BOK (b:Brd):Prop where
 dp:∀ i,∃ n,Dp b i n
 nd:b.its.Pairwise (fun x y=>x.f0 ≠ y.f0)
 pos:∀ x ∈ b.its,0 < x.f0
 nil:∀ x ∈ b.its,x.f3 = []
theorem BOK.start:BOK ⟨[],[]⟩:=⟨fun i=>by
 by_cases h:i ≤ 0
 ·exact ⟨0,.stop h⟩
 ·exact ⟨0,.gone (by omega) rfl⟩,.nil,(fun x hx=>by cases hx),(fun x hx=>by cases hx)⟩
theorem BOK.putAt {b:Brd} (h:BOK b) (j:Int) (v:List S91):BOK (b.putAt j v):=⟨fun i=>by
 obtain ⟨n,hn⟩:=h.dp i
 exact ⟨n,hn.putAt⟩,h.nd,h.pos,h.nil⟩
theorem BOK.putIt {b:Brd} (h:BOK b) {x:S87} (hx:0 < x.f0) (h3:x.f3 = []) {k:Nat} (hb:belowF k b x.f1 x.f0 = some false):BOK (b.putIt x):=by
 refine ⟨fun i=>?_,?_,fun y hy=>?_,fun y hy=>?_⟩
 ·obtain ⟨m,hm⟩:=h.dp x.f1
  obtain ⟨n,hn⟩:=h.dp i
  exact Dp.put hx (hm.keep x k hb) hn
 ·unfold Brd.putIt
  rw [List.pairwise_append]
  refine ⟨h.nd.filter _,List.pairwise_singleton _ _,fun y hy z hz=>?_⟩
  obtain rfl:z = x:=by simpa using hz
  have:=(List.mem_filter.1 hy).2
  simpa using this
 ·rcases List.mem_append.1 hy with hy | hy
  ·exact h.pos y (List.mem_filter.1 hy).1
  ·obtain rfl:y = x:=by simpa using hy
   exact hx
 ·rcases List.mem_append.1 hy with hy | hy
  ·exact h.nil y (List.mem_filter.1 hy).1
  ·obtain rfl:y = x:=by simpa using hy
   exact h3
theorem BOK.it_of {b:Brd} (h:BOK b) {x:S87} (hx:x ∈ b.its):b.it x.f0 = some x:=by
 have hnd:=h.nd
 unfold Brd.it
 generalize b.its = l at hx hnd
 induction l with
 | nil=>cases hx
 | cons y r ih =>
  rw [List.pairwise_cons] at hnd
  rcases List.mem_cons.1 hx with rfl | hx
  ·simp
  ·rw [List.find?_cons]
   have:(y.f0 == x.f0) = false:=by simpa using hnd.1 x hx
   rw [this]
   exact ih hx hnd.2
theorem it_mem {b:Brd} {i:Int} {x:S87} (h:b.it i = some x):x ∈ b.its ∧ x.f0 = i:=⟨List.mem_of_find?_eq_some h,it_f0 h⟩
def treeF:Nat → Brd → Int → List S87
 | 0,_,_=>[]
 | k + 1,b,p=>(kidsF b p).flatMap fun x=>x :: treeF k b x.f0
inductive Up (b:Brd) (p:Int):Int → Nat → Prop
 | here:Up b p p 0
 | step {y:Int} {x:S87} {j:Nat}:0 < y → b.it y = some x → Up b p x.f1 j → Up b p y (j + 1)
theorem Up.dp {b:Brd} {p y:Int} {j n:Nat} (h:Up b p y j) (hp:Dp b p n):Dp b y (n + j):=by
 induction h with
 | here=>exact hp
 | step h0 hx _ ih=>exact .up h0 hx ih
theorem Up.uniq {b:Brd} {p q y:Int} {j:Nat} (h:Up b p y j) (h':Up b q y j):p = q:=by
 induction h with
 | here=>cases h';rfl
 | step h0 hx _ ih =>
  cases h' with
  | step _ h1 h2 =>
   rw [hx] at h1
   cases h1
   exact ih h2
theorem Up.trans {b:Brd} {p q y:Int} {j i:Nat} (h:Up b q y j) (h':Up b p q i):Up b p y (i + j):=by
 induction h with
 | here=>exact h'
 | step h0 hx _ ih=>exact .step h0 hx ih
theorem insB_mem {α:Type} (lt:α → α → Bool) (x:α) (l:List α):(insB lt x l).Perm (x :: l):=by
 induction l with
 | nil=>exact .refl _
 | cons y r ih =>
  unfold insB
  split
  ·exact (ih.cons y).trans (.swap _ _ _)
  ·exact .refl _
theorem sortB_perm {α:Type} (lt:α → α → Bool) (l:List α):(sortB lt l).Perm l:=by
 induction l with
 | nil=>exact .nil
 | cons x r ih=>exact (insB_mem lt x _).trans (ih.cons x)
theorem kids_perm (b:Brd) (p:Int):(kidsF b p).Perm (kidsL b p):=sortB_perm _ _
theorem kids_mem {b:Brd} {p:Int} {x:S87}:x ∈ kidsF b p ↔ x ∈ b.its ∧ x.f1 = p:=by
 rw [(kids_perm b p).mem_iff]
 unfold kidsL
 rw [List.mem_filter]
 simp
theorem tree_mem {b:Brd} (h:BOK b):∀ (k:Nat) (p:Int) (y:S87),y ∈ treeF k b p → y ∈ b.its ∧ ∃ j,Up b p y.f0 (j + 1)
 | 0,p,y,hy=>by cases hy
 | k + 1,p,y,hy=>by
  unfold treeF at hy
  obtain ⟨x,hx,hy1⟩:=List.mem_flatMap.1 hy
  clear hy
  obtain ⟨hxi,rfl⟩:=kids_mem.1 hx
  rcases List.mem_cons.1 hy1 with rfl | hy
  ·exact ⟨hxi,0,.step (h.pos _ hxi) (h.it_of hxi) .here⟩
  ·obtain ⟨h1,j,h2⟩:=tree_mem h k x.f0 y hy
   exact ⟨h1,j + 1,by have:=h2.trans (.step (h.pos _ hxi) (h.it_of hxi) .here);rwa [show j + 1 + 1 = 0 + 1 + (j + 1) by omega]⟩
theorem mem_tree {b:Brd} (h:BOK b) {y:S87} (hy:y ∈ b.its):∀ (k j:Nat) (p:Int),j < k → Up b p y.f0 (j + 1) → y ∈ treeF k b p:=by
 intro k
 induction k with
 | zero=>intro j p hj;omega
 | succ k ih =>
  intro j p hj hu
  have key:∀ (j:Nat) (z:Int),Up b p z (j + 1) → ∃ x,x ∈ b.its ∧ x.f1 = p ∧ Up b x.f0 z j:=by
   intro j
   induction j with
   | zero =>
    intro z hz
    cases hz with
    | @step _ x _ h0 hx h2 =>
     generalize hq:x.f1 = q at h2
     cases h2
     exact ⟨x,(it_mem hx).1,hq,by rw [(it_mem hx).2];exact .here⟩
   | succ j ihj =>
    intro z hz
    cases hz with
    | @step _ x _ h0 hx h2 =>
     obtain ⟨x',h3,h4,h5⟩:=ihj _ h2
     exact ⟨x',h3,h4,.step h0 hx h5⟩
  obtain ⟨x,hxi,hxp,hxu⟩:=key j y.f0 hu
  unfold treeF
  refine List.mem_flatMap.2 ⟨x,kids_mem.2 ⟨hxi,hxp⟩,?_⟩
  cases j with
  | zero =>
   generalize hq:y.f0 = q at hxu
   cases hxu
   have h1:=h.it_of hxi
   have h2:=h.it_of hy
   rw [hq,h1] at h2
   cases h2
   exact List.mem_cons_self
  | succ j=>exact List.mem_cons_of_mem _ (ih j x.f0 (by omega) hxu)
theorem kids_apart {b:Brd} (h:BOK b) {p:Int} {x x':S87} (hx:x ∈ b.its) (hx':x' ∈ b.its) (e:x.f1 = p) (e':x'.f1 = p) {z:Int} {i j:Nat} (hi:Up b x.f0 z i) (hj:Up b x'.f0 z j):x.f0 = x'.f0:=by
 obtain ⟨n,hn⟩:=h.dp p
 have d:Dp b x.f0 (n + 1):=.up (h.pos x hx) (h.it_of hx) (by rw [e];exact hn)
 have d':Dp b x'.f0 (n + 1):=.up (h.pos x' hx') (h.it_of hx') (by rw [e'];exact hn)
 have:=(hi.dp d).uniq (hj.dp d')
 obtain rfl:i = j:=by omega
 exact hi.uniq hj
theorem Up.not_self {b:Brd} (h:BOK b) {p:Int} {j:Nat}:¬ Up b p p (j + 1):=fun hu=>by
 obtain ⟨n,hn⟩:=h.dp p
 have:=(hu.dp hn).uniq hn
 omega
theorem kids_nd {b:Brd} (h:BOK b) (p:Int):(kidsF b p).Pairwise (fun x y=>x.f0 ≠ y.f0):=by
 refine (kids_perm b p).symm.pairwise ?_ (fun h=>Ne.symm h)
 unfold kidsL
 exact h.nd.filter _
theorem tree_nd {b:Brd} (h:BOK b):∀ (k:Nat) (p:Int),(treeF k b p).Pairwise (fun x y=>x.f0 ≠ y.f0)
 | 0,p=>.nil
 | k + 1,p=>by
  unfold treeF
  rw [List.pairwise_flatMap]
  refine ⟨fun x hx=>?_,(kids_nd h p).imp_of_mem fun {x x'} hx hx' hne y hy z hz=>?_⟩
  ·rw [List.pairwise_cons]
   refine ⟨fun y hy e=>?_,tree_nd h k x.f0⟩
   obtain ⟨_,j,hu⟩:=tree_mem h k x.f0 y hy
   rw [← e] at hu
   exact hu.not_self h
  ·obtain ⟨hxi,ex⟩:=kids_mem.1 hx
   obtain ⟨hxi',ex'⟩:=kids_mem.1 hx'
   have up:∀ {x y:S87},y ∈ x :: treeF k b x.f0 → ∃ j,Up b x.f0 y.f0 j:=fun {x y} hy=>by
    rcases List.mem_cons.1 hy with rfl | hy
    ·exact ⟨0,.here⟩
    ·obtain ⟨_,j,hu⟩:=tree_mem h k x.f0 y hy
     exact ⟨_,hu⟩
   obtain ⟨i,hi⟩:=up hy
   obtain ⟨j,hj⟩:=up hz
   intro e
   rw [← e] at hj
   exact hne (kids_apart h hxi hxi' ex ex' hi hj)
theorem nd_le {α:Type} (f:α → Int):∀ (L M:List α),L.Pairwise (fun x y=>f x ≠ f y) → (∀ x ∈ L,x ∈ M) → L.length ≤ M.length
 | [],M,_,_=>Nat.zero_le _
 | x :: r,M,hp,hs=>by
  rw [List.pairwise_cons] at hp
  have h1:=nd_le f r (M.filter fun y=>f y != f x) hp.2 (fun y hy=>List.mem_filter.2 ⟨hs y (List.mem_cons_of_mem _ hy),by have:=hp.1 y hy;simpa using this.symm⟩)
  have h2:(M.filter fun y=>f y != f x).length < M.length:=List.length_filter_lt_length_iff_exists.2 ⟨x,hs x List.mem_cons_self,by simp⟩
  simp only [List.length_cons]
  omega
theorem Dp.chain {b:Brd} (h:BOK b) {i:Int} {n:Nat} (hd:Dp b i n):∃ L:List S87,L.length = n ∧ L.Pairwise (fun x y=>x.f0 ≠ y.f0) ∧ ∀ x ∈ L,x ∈ b.its ∧ ∃ m,m ≤ n ∧ 0 < m ∧ Dp b x.f0 m:=by
 induction hd with
 | stop _=>exact ⟨[],rfl,.nil,fun x hx=>by cases hx⟩
 | gone _ _=>exact ⟨[],rfl,.nil,fun x hx=>by cases hx⟩
 | @up i x n h0 hx hd ih =>
  obtain ⟨L,h1,h2,h3⟩:=ih
  have hu:Dp b x.f0 (n + 1):=by rw [(it_mem hx).2];exact .up h0 hx hd
  refine ⟨x :: L,by simp [h1],?_,fun y hy=>?_⟩
  ·rw [List.pairwise_cons]
   refine ⟨fun y hy e=>?_,h2⟩
   obtain ⟨_,m,hm,_,hd'⟩:=h3 y hy
   rw [← e] at hd'
   have:=hu.uniq hd'
   omega
  ·rcases List.mem_cons.1 hy with rfl | hy
   ·exact ⟨(it_mem hx).1,n + 1,Nat.le_refl _,by omega,hu⟩
   ·obtain ⟨h4,m,h5,h6,h7⟩:=h3 y hy
    exact ⟨h4,m,by omega,h6,h7⟩
theorem Dp.le {b:Brd} (h:BOK b) {i:Int} {n:Nat} (hd:Dp b i n):n ≤ b.its.length:=by
 obtain ⟨L,h1,h2,h3⟩:=hd.chain h
 rw [← h1]
 exact nd_le _ _ _ h2 (fun x hx=>(h3 x hx).1)
theorem tree_len {b:Brd} (h:BOK b) (k:Nat) (p:Int):(treeF k b p).length ≤ b.its.length:=nd_le _ _ _ (tree_nd h k p) (fun x hx=>(tree_mem h k p x hx).1)
theorem visit_tree {b:Brd} (h:BOK b):∀ (k:Nat) (p:Int) (n:Nat),Dp b p n → b.its.length < n + k → ∀ out:List S87,out.length + (treeF k b p).length ≤ 1073741824 → visitF k b p out = some (out ++ treeF k b p)
 | 0,p,n,hp,hk,out,_=>by have:=hp.le h;omega
 | k + 1,p,n,hp,hk,out,hl=>by
  unfold visitF
  unfold treeF at hl ⊢
  have hs:∀ x ∈ kidsF b p,x ∈ b.its ∧ x.f1 = p:=fun x hx=>kids_mem.1 hx
  generalize kidsF b p = L at hl hs
  induction L generalizing out with
  | nil=>simp
  | cons x r ih =>
   simp only [List.flatMap_cons,List.length_append,List.length_cons] at hl
   have hx:=hs x List.mem_cons_self
   simp only [List.foldlM_cons]
   rw [if_pos (by omega),visit_tree h k x.f0 (n + 1) (.up (h.pos x hx.1) (h.it_of hx.1) (by rw [hx.2];exact hp)) (by omega) _ (by rw [List.length_append,List.length_singleton];omega)]
   simp only [Option.bind_eq_bind,Option.bind_some]
   rw [ih (out ++ [x] ++ treeF k b x.f0) (by simp only [List.length_append,List.length_singleton];omega) (fun y hy=>hs y (List.mem_cons_of_mem _ hy))]
   simp
def shownL (b:Brd):List S87:=treeF (b.its.length + 1) b 0
def orderL (b:Brd):List S87:=shownL b ++ restF b (shownL b)
def fillF (b:Brd) (x:S87):S87:=⟨x.f0,x.f1,x.f2,b.atD x.f0⟩
theorem raw_some {b:Brd} (h:BOK b) (hl:b.its.length ≤ 1073741824):rawC (b.its.length + 1) b = some ((orderL b).map (fillF b)):=by
 unfold rawC
 have:=tree_len h (b.its.length + 1) 0
 rw [visit_tree h (b.its.length + 1) 0 0 (.stop (Int.le_refl _)) (by omega) [] (by simp only [List.length_nil];omega)]
 rfl
theorem tree_sib {b:Brd} (h:BOK b) (R:S87 → S87 → Prop) (hR:∀ p,(kidsF b p).Pairwise R):∀ (k:Nat) (p:Int),(treeF k b p).Pairwise (fun y x=>y.f1 = x.f1 → R y x)
 | 0,p=>.nil
 | k + 1,p=>by
  unfold treeF
  have par:∀ {x y:S87},x ∈ b.its → y ∈ treeF k b x.f0 → ∃ j,Up b x.f0 y.f1 j:=fun {x y} hxi hy=>by
   obtain ⟨hyi,j,hu⟩:=tree_mem h k x.f0 y hy
   generalize hq:y.f0 = q at hu
   generalize hx0:x.f0 = x0 at hu ⊢
   cases hu with
   | @step _ x' _ h0 hx' h2 =>
    rw [← hq,h.it_of hyi] at hx'
    cases hx'
    exact ⟨j,h2⟩
  have off:∀ {x y:S87},x ∈ b.its → x.f1 = p → y ∈ treeF k b x.f0 → y.f1 ≠ p:=fun {x y} hxi ex hy e=>by
   obtain ⟨j,hu⟩:=par hxi hy
   obtain ⟨n,hn⟩:=h.dp p
   have d:Dp b x.f0 (n + 1):=.up (h.pos x hxi) (h.it_of hxi) (by rw [ex];exact hn)
   have:=(hu.dp d).uniq (by rw [e];exact hn)
   omega
  rw [List.pairwise_flatMap]
  have hnd:=kids_nd h p
  refine ⟨fun x hx=>?_,((hR p).and hnd).imp_of_mem fun {x x'} hx hx' hr y hy z hz=>?_⟩
  ·obtain ⟨hxi,ex⟩:=kids_mem.1 hx
   rw [List.pairwise_cons]
   exact ⟨fun y hy e=>absurd (e.symm.trans ex) (off hxi ex hy),tree_sib h R hR k x.f0⟩
  ·obtain ⟨hxi,ex⟩:=kids_mem.1 hx
   obtain ⟨hxi',ex'⟩:=kids_mem.1 hx'
   intro e
   rcases List.mem_cons.1 hy with rfl | hy
   ·rcases List.mem_cons.1 hz with rfl | hz
    ·exact hr.1
    ·exact absurd (e.symm.trans ex) (off hxi' ex' hz)
   ·rcases List.mem_cons.1 hz with rfl | hz
    ·exact absurd (e.trans ex') (off hxi ex hy)
    ·obtain ⟨i,hi⟩:=par hxi hy
     obtain ⟨j,hj⟩:=par hxi' hz
     rw [← e] at hj
     exact absurd (kids_apart h hxi hxi' ex ex' hi hj) hr.2
def lt2 (s t:ByteArray) (i j:Int):Bool:=decide (orI (cmpS s t) (cmpI i j) < 0)
theorem lt2_iff (s t:ByteArray) (i j:Int):lt2 s t i j = true ↔ Op.bytesLess s.toList t.toList = true ∨ (s.toList = t.toList ∧ i < j):=by
 unfold lt2 orI cmpS cmpI
 rw [decide_eq_true_iff]
 cases h1:Op.bytesLess s.toList t.toList with
 | true=>simp
 | false =>
  cases h2:Op.bytesLess t.toList s.toList with
  | true =>
   have:s.toList ≠ t.toList:=fun e=>by rw [e,Ord.less_irrefl] at h2;cases h2
   simp [this]
  | false =>
   have:=Ord.less_total h1 h2
   simp only [this,Bool.false_eq_true,if_false,if_true,true_and,false_or]
   by_cases h3:i < j
   ·simp [h3]
   ·rw [if_neg h3]
    split <;> simp [h3]
theorem lt2_irrefl (s:ByteArray) (i:Int):lt2 s s i i = false:=by
 rw [← Bool.not_eq_true,lt2_iff]
 rintro (h | ⟨_,h⟩)
 ·rw [Ord.less_irrefl] at h;cases h
 ·omega
theorem lt2_trans {s t u:ByteArray} {i j k:Int} (h:lt2 s t i j = true) (h':lt2 t u j k = true):lt2 s u i k = true:=by
 rw [lt2_iff] at *
 rcases h with h | ⟨e,h⟩
 ·rcases h' with h' | ⟨e',h'⟩
  ·exact .inl (Ord.less_trans h h')
  ·rw [← e'];exact .inl h
 ·rcases h' with h' | ⟨e',h'⟩
  ·rw [e];exact .inl h'
  ·exact .inr ⟨e.trans e',by omega⟩
theorem lt2_total {s t:ByteArray} {i j:Int} (h:lt2 s t i j = false) (h':lt2 t s j i = false):s.toList = t.toList ∧ i = j:=by
 rw [← Bool.not_eq_true,lt2_iff] at h h'
 have e:s.toList = t.toList:=Ord.less_total (by
  cases hq:Op.bytesLess s.toList t.toList with
  | true=>exact absurd (.inl hq) h
  | false=>rfl) (by
  cases hq:Op.bytesLess t.toList s.toList with
  | true=>exact absurd (.inl hq) h'
  | false=>rfl)
 refine ⟨e,?_⟩
 have h1:¬ i < j:=fun hl=>h (.inr ⟨e,hl⟩)
 have h2:¬ j < i:=fun hl=>h' (.inr ⟨e.symm,hl⟩)
 omega
theorem lt2_ntrans {s t u:ByteArray} {i j k:Int} (h:lt2 s t i j = false) (h':lt2 t u j k = false):lt2 s u i k = false:=by
 cases hq:lt2 s u i k with
 | false=>rfl
 | true =>
  cases h1:lt2 t s j i with
  | true=>rw [lt2_trans h1 hq] at h';cases h'
  | false =>
   obtain ⟨e,rfl⟩:=lt2_total h h1
   rw [← h',← hq]
   rw [Bool.eq_iff_iff,lt2_iff,lt2_iff,e]
theorem ltP_eq (x y:S87):ltP x y = lt2 x.f2 y.f2 x.f0 y.f0:=rfl
theorem ltN_iff (x y:S87):ltN x y = true ↔ x.f0 < y.f0:=by
 unfold ltN cmpI
 rw [decide_eq_true_iff]
 by_cases h:x.f0 < y.f0
 ·simp [h]
 ·rw [if_neg h];split <;> simp [h]
theorem insB_sorted {α:Type} (lt:α → α → Bool) (hT:∀ x y z,lt x y = false → lt y z = false → lt x z = false) (hA:∀ x y,lt x y = true → lt y x = false) (x:α) (l:List α) (h:l.Pairwise (fun a b=>lt b a = false)):(insB lt x l).Pairwise (fun a b=>lt b a = false):=by
 induction l with
 | nil=>exact List.pairwise_singleton _ _
 | cons y r ih =>
  rw [List.pairwise_cons] at h
  unfold insB
  by_cases hy:lt y x = true
  ·rw [if_pos hy,List.pairwise_cons]
   refine ⟨fun z hz=>?_,ih h.2⟩
   rcases List.mem_cons.1 ((insB_mem lt x r).mem_iff.1 hz) with rfl | hz
   ·exact hA _ _ hy
   ·exact h.1 z hz
  ·rw [if_neg hy,List.pairwise_cons,List.pairwise_cons]
   have hy:lt y x = false:=by simpa using hy
   refine ⟨fun z hz=>?_,h⟩
   rcases List.mem_cons.1 hz with rfl | hz
   ·exact hy
   ·exact hT _ _ _ (h.1 z hz) hy
theorem sortB_sorted {α:Type} (lt:α → α → Bool) (hT:∀ x y z,lt x y = false → lt y z = false → lt x z = false) (hA:∀ x y,lt x y = true → lt y x = false) (l:List α):(sortB lt l).Pairwise (fun a b=>lt b a = false):=by
 induction l with
 | nil=>exact .nil
 | cons x r ih=>exact insB_sorted lt hT hA x _ ih
theorem ltP_nt (x y z:S87) (h:ltP x y = false) (h':ltP y z = false):ltP x z = false:=lt2_ntrans h h'
theorem ltP_as (x y:S87) (h:ltP x y = true):ltP y x = false:=by
 cases h':ltP y x with
 | false=>rfl
 | true =>
  have:=lt2_trans h h'
  rw [lt2_irrefl] at this
  cases this
theorem ltN_nt (x y z:S87) (h:ltN x y = false) (h':ltN y z = false):ltN x z = false:=by
 rw [← Bool.not_eq_true,ltN_iff] at *
 omega
theorem ltN_as (x y:S87) (h:ltN x y = true):ltN y x = false:=by
 rw [ltN_iff] at h
 rw [← Bool.not_eq_true,ltN_iff]
 omega
theorem kids_sorted (b:Brd) (p:Int):(kidsF b p).Pairwise (fun a b=>ltP b a = false):=sortB_sorted ltP ltP_nt ltP_as _
theorem sorted_one {α:Type} {lt:α → α → Bool} {L M:List α} (hp:L.Perm M) (hL:L.Pairwise (fun a b=>lt b a = false)) (hM:M.Pairwise (fun a b=>lt b a = false)) (hu:∀ x ∈ M,∀ y ∈ M,lt x y = false → lt y x = false → x = y):L = M :=
 hp.eq_of_pairwise (fun a b ha hb h1 h2=>hu a (hp.mem_iff.1 ha) b hb h2 h1) hL hM
theorem atD_putAt (b:Brd) (j:Int) (v:List S91) (i:Int):(b.putAt j v).atD i = if i = j then v else b.atD i:=by
 unfold Brd.atD
 rw [at_putAt]
 split <;> rfl
theorem putIt_len (b:Brd) (x:S87):(b.putIt x).its.length ≤ b.its.length + 1:=by
 unfold Brd.putIt
 simp only [List.length_append,List.length_singleton]
 have:=List.length_filter_le (fun y:S87=>y.f0 != x.f0) b.its
 omega
theorem play_mono (k:Nat):∀ (l:List S128) (b bE:Brd),playF k l b = some bE → playF (k + 1) l b = some bE
 | [],b,bE,h=>h
 | o :: l,b,bE,h=>by
  unfold playF at h ⊢
  by_cases h2:o.f2 = 1
  ·rw [if_pos h2] at h ⊢
   obtain ⟨r,hr,h⟩:=Option.bind_eq_some_iff.1 h
   rw [hr]
   exact play_mono k l _ _ h
  ·rw [if_neg h2] at h ⊢
   obtain ⟨t,ht,h⟩:=Option.bind_eq_some_iff.1 h
   rw [below_mono _ _ _ _ _ ht]
   simp only [Option.bind_some]
   cases t with
   | true=>rw [if_pos rfl] at h ⊢;exact play_mono k l _ _ h
   | false=>rw [if_neg (by decide)] at h ⊢;exact play_mono k l _ _ h
theorem play_le {l:List S128} {b bE:Brd} {k m:Nat} (h:playF k l b = some bE) (hm:k ≤ m):playF m l b = some bE:=by
 induction hm with
 | refl=>exact h
 | step _ ih=>exact play_mono _ _ _ _ ih
theorem play_some:∀ (l:List S128) (b:Brd) (n:Nat),(∀ o ∈ l,0 < o.f3) → BOK b → b.its.length ≤ n → (∀ i,(b.atD i).length ≤ n) → n + l.length ≤ 1073741824 →
 ∃ k bE,playF k l b = some bE ∧ BOK bE ∧ bE.its.length ≤ n + l.length ∧ ∀ i,(bE.atD i).length ≤ n + l.length
 | [],b,n,_,hb,h1,h2,_=>⟨0,b,rfl,hb,h1,h2⟩
 | o :: l,b,n,hl,hb,h1,h2,hn=>by
  simp only [List.length_cons] at hn ⊢
  have hl':∀ o ∈ l,0 < o.f3:=fun x hx=>hl x (List.mem_cons_of_mem _ hx)
  by_cases hk:o.f2 = 1
  ·obtain ⟨r,hr,hrl⟩:=raw_f' (a:=b.atD o.f3) (b:=[⟨o.f6,o.f7⟩]) (by have:=h2 o.f3;omega) (by simp)
   obtain ⟨k,bE,h3,h4,h5,h6⟩:=play_some l (b.putAt o.f3 r) (n + 1) hl' (hb.putAt _ _) (by show b.its.length ≤ n + 1;omega) (fun i=>by
    rw [atD_putAt]
    split
    ·have:=h2 o.f3;simp only [List.length_singleton] at hrl;omega
    ·have:=h2 i;omega) (by omega)
   exact ⟨k,bE,by unfold playF;rw [if_pos hk,hr];exact h3,h4,by omega,fun i=>by have:=h6 i;omega⟩
  ·obtain ⟨d,hd⟩:=hb.dp o.f4
   obtain ⟨t,ht⟩:=hd.belowE o.f3
   cases t with
   | true =>
    obtain ⟨k,bE,h3,h4,h5,h6⟩:=play_some l b n hl' hb h1 h2 (by omega)
    refine ⟨max k (d + 1),bE,?_,h4,by omega,fun i=>by have:=h6 i;omega⟩
    unfold playF
    rw [if_neg hk,below_le ht (Nat.le_max_right _ _)]
    simp only [Option.bind_some,if_true]
    exact play_le h3 (Nat.le_max_left _ _)
   | false =>
    have hlen:=putIt_len b ⟨o.f3,o.f4,o.f5,[]⟩
    obtain ⟨k,bE,h3,h4,h5,h6⟩:=play_some l (b.putIt ⟨o.f3,o.f4,o.f5,[]⟩) (n + 1) hl' (hb.putIt (hl o List.mem_cons_self) rfl ht) (by omega) (fun i=>by
     show (b.atD i).length ≤ n + 1
     have:=h2 i;omega) (by omega)
    refine ⟨max k (d + 1),bE,?_,h4,by omega,fun i=>by have:=h6 i;omega⟩
    unfold playF
    rw [if_neg hk,below_le ht (Nat.le_max_right _ _)]
    simp only [Option.bind_some,Bool.false_eq_true,if_false]
    exact play_le h3 (Nat.le_max_left _ _)
theorem items_some (l:List S128) (hl:∀ o ∈ l,0 < o.f3) (hn:l.length ≤ 1073741824):∃ k bE,playF k l ⟨[],[]⟩ = some bE ∧ BOK bE ∧ bE.its.length ≤ l.length ∧ (∀ i,(bE.atD i).length ≤ l.length) ∧ rawC (bE.its.length + 1) bE = some ((orderL bE).map (fillF bE)):=by
 obtain ⟨k,bE,h1,h2,h3,h4⟩:=play_some l ⟨[],[]⟩ 0 hl .start (Nat.le_refl _) (fun i=>Nat.le_refl _) (by omega)
 simp only [Nat.zero_add] at h3 h4
 exact ⟨k,bE,h1,h2,h3,h4,raw_some h2 (by omega)⟩
end Go.Proofs.Ytlcodfjlbhjkbaa.PDelta
end
section
namespace Go.Proofs.Ytlcodfjlbhjkbaa.PDelta
open Go.RowKit Go.Proofs.YtlcodfjlbhjkbaaW.PrintWords Go.Proofs.YtlcodfjlbhjkbaaW.PrintLast Go.Proofs.YtlcodfjlbhjkbaaW.PrintMore
attribute [local go_sem] max2_int min2_int max_two min_two max_three min_three max_four min_four
attribute [local go_sem high] Go.Proofs.Ytlcodfjlbhjkbaa.Ord.leq_str Go.Proofs.Ytlcodfjlbhjkbaa.Ord.gtr_str Go.Proofs.Ytlcodfjlbhjkbaa.Ord.geq_str
noncomputable section
attribute [local go_sem high] eqA128
mutual
def replica_Both.l0:Nat → List (S128) → List (S128) → List (S128) → Option ((List (S128)) × Int)
 | 0,_,_,_=>none
 | k + 1,x0,x1,x6=>if (x0.length:Int) > 0 then (replica_Both.j1 k x0 x1 x6 true) else (replica_Both.j1 k x0 x1 x6 (decide ((x1.length:Int) > 0)))
def replica_Both.j1:Nat → List (S128) → List (S128) → List (S128) → Bool → Option ((List (S128)) × Int)
 | 0,_,_,_,_=>none
 | k + 1,x0,x1,x6,x14=>if x14 = true then (if (x1.length:Int) = 0 then (replica_Both.j2 k x0 x1 x6 true) else (if (x0.length:Int) > 0 then (if 0 < (x0.length:Int) then (if 0 < (x1.length:Int) then ((replica_stamps.f k ((rd_T128 x0 0).f0) ((rd_T128 x0 0).f1) ((rd_T128 x0 0).f2) ((rd_T128 x0 0).f3) ((rd_T128 x0 0).f4) ((rd_T128 x0 0).f5) ((rd_T128 x0 0).f6) ((rd_T128 x0 0).f7) ((rd_T128 x1 0).f0) ((rd_T128 x1 0).f1) ((rd_T128 x1 0).f2) ((rd_T128 x1 0).f3) ((rd_T128 x1 0).f4) ((rd_T128 x1 0).f5) ((rd_T128 x1 0).f6) ((rd_T128 x1 0).f7)).bind fun t132=>(replica_Both.j2 k x0 x1 x6 (decide (t132 < 0)))) else (none)) else (none)) else (replica_Both.j2 k x0 x1 x6 false))) else (some (x6,0))
def replica_Both.j2:Nat → List (S128) → List (S128) → List (S128) → Bool → Option ((List (S128)) × Int)
 | 0,_,_,_,_=>none
 | k + 1,x0,x1,x6,x25=>if x25 = true then (if 0 < (x0.length:Int) then (if x6.length < 1599289640401 then (if 1 ≤ (x0.length:Int) then (replica_Both.l0 k (x0.drop 1) x1 (x6 ++ [(⟨(rd_T128 x0 0).f0,(rd_T128 x0 0).f1,(rd_T128 x0 0).f2,(rd_T128 x0 0).f3,(rd_T128 x0 0).f4,(rd_T128 x0 0).f5,(rd_T128 x0 0).f6,(rd_T128 x0 0).f7⟩:S128)])) else (none)) else (none)) else (none)) else (if (x0.length:Int) = 0 then (replica_Both.j3 k x0 x1 x6 true) else (if 0 < (x1.length:Int) then (if 0 < (x0.length:Int) then ((replica_stamps.f k ((rd_T128 x1 0).f0) ((rd_T128 x1 0).f1) ((rd_T128 x1 0).f2) ((rd_T128 x1 0).f3) ((rd_T128 x1 0).f4) ((rd_T128 x1 0).f5) ((rd_T128 x1 0).f6) ((rd_T128 x1 0).f7) ((rd_T128 x0 0).f0) ((rd_T128 x0 0).f1) ((rd_T128 x0 0).f2) ((rd_T128 x0 0).f3) ((rd_T128 x0 0).f4) ((rd_T128 x0 0).f5) ((rd_T128 x0 0).f6) ((rd_T128 x0 0).f7)).bind fun t144=>(replica_Both.j3 k x0 x1 x6 (decide (t144 < 0)))) else (none)) else (none)))
def replica_Both.j3:Nat → List (S128) → List (S128) → List (S128) → Bool → Option ((List (S128)) × Int)
 | 0,_,_,_,_=>none
 | k + 1,x0,x1,x6,x52=>if x52 = true then (if 0 < (x1.length:Int) then (if x6.length < 1599289640401 then (if 1 ≤ (x1.length:Int) then (replica_Both.l0 k x0 (x1.drop 1) (x6 ++ [(⟨(rd_T128 x1 0).f0,(rd_T128 x1 0).f1,(rd_T128 x1 0).f2,(rd_T128 x1 0).f3,(rd_T128 x1 0).f4,(rd_T128 x1 0).f5,(rd_T128 x1 0).f6,(rd_T128 x1 0).f7⟩:S128)])) else (none)) else (none)) else (none)) else (if 0 < (x0.length:Int) then (if 0 < (x1.length:Int) then (if (!(((rd_T128 x0 0).f0) == ((rd_T128 x1 0).f0)) || (!(((rd_T128 x0 0).f1) == ((rd_T128 x1 0).f1)) || (!(((rd_T128 x0 0).f2) == ((rd_T128 x1 0).f2)) || (!(((rd_T128 x0 0).f3) == ((rd_T128 x1 0).f3)) || (!(((rd_T128 x0 0).f4) == ((rd_T128 x1 0).f4)) || (!((((rd_T128 x0 0).f5).toList) == (((rd_T128 x1 0).f5).toList)) || (!((((rd_T128 x0 0).f6).toList) == (((rd_T128 x1 0).f6).toList)) || (!((((rd_T128 x0 0).f7).toList) == (((rd_T128 x1 0).f7).toList)))))))))) = true then (some (([]:List (S128)),6)) else (if x6.length < 1599289640401 then (if 1 ≤ (x0.length:Int) then (if 1 ≤ (x1.length:Int) then (replica_Both.l0 k (x0.drop 1) (x1.drop 1) (x6 ++ [(⟨(rd_T128 x0 0).f0,(rd_T128 x0 0).f1,(rd_T128 x0 0).f2,(rd_T128 x0 0).f3,(rd_T128 x0 0).f4,(rd_T128 x0 0).f5,(rd_T128 x0 0).f6,(rd_T128 x0 0).f7⟩:S128)])) else (none)) else (none)) else (none))) else (none)) else (none))
end
def replica_Both.f (k:Nat) (l0:List (S128)) (l1:List (S128)):Option ((List (S128)) × Int):=replica_Both.l0 k l0 l1 ([]:List (S128))
def replica_Both.T3:Bool × List (List Nat × List Nat):=(true,[([],[]),([],[]),([1],[1]),([2],[2]),([3],[3]),([0,4],[0,4]),([],[]),([6],[6]),([],[]),([8],[8]),([5,5,0,1,2,3,4,5],[0,5]),([7,10,0,1,2,3,4,5,6,7,10],[1,6,7]),([9,11,0,1,2,3,4,5,6,7,8,9,10,11],[8,9])])
def replica_Both.B3:List Nat:=[0,0,2,6,14,31,0,64,0,256,63,1279,4095]
theorem replica_Both.tab3:rtab .any (opsOf Try.f73 3) = replica_Both.T3:=by kernel_rfl
theorem replica_Both.bits3:waitsOk replica_Both.T3.2 replica_Both.B3 = true:=by kernel_rfl
def replica_Both.T4:Bool × List (List Nat × List Nat):=(true,[([],[]),([0],[0]),([1],[1]),([2],[2]),([3],[3]),([4,3],[3,4]),([5,3],[3,5]),([6,3,3],[3,6]),([7],[7]),([8,7],[7,8]),([9,7],[7,9]),([7],[7]),([11,7],[7,11]),([12,7],[7,12]),([10,13,7,7],[7,10,13]),([14,7],[7,14]),([7,15,3],[3,7,15]),([3,16],[3,16]),([17,14],[17])])
def replica_Both.B4:List Nat:=[0,1,3,7,15,31,63,127,255,511,1023,255,2303,6399,16383,32767,65535,131071,262143]
theorem replica_Both.tab4:rtab .any (opsOf Try.f73 4) = replica_Both.T4:=by kernel_rfl
theorem replica_Both.bits4:waitsOk replica_Both.T4.2 replica_Both.B4 = true:=by kernel_rfl
def replica_Both.T5:Bool × List (List Nat × List Nat):=(true,[([],[]),([],[]),([1],[1]),([2],[2]),([3],[3]),([0,4],[0,4]),([],[]),([6],[6]),([5,5,0,1,2,3,4,5],[0,5]),([7,8,0,1,2,3,4,5,6,7,8],[1,6,7])])
def replica_Both.B5:List Nat:=[0,0,2,6,14,31,0,64,63,511]
theorem replica_Both.tab5:rtab .any (opsOf Try.f73 5) = replica_Both.T5:=by kernel_rfl
theorem replica_Both.bits5:waitsOk replica_Both.T5.2 replica_Both.B5 = true:=by kernel_rfl
def replica_Both.T6:Bool × List (List Nat × List Nat):=(true,[([],[]),([0],[0]),([1],[1]),([2],[2]),([3],[3]),([4,3],[3,4]),([5,3],[3,5]),([3],[3]),([7,3],[3,7]),([8,3],[3,8]),([6,9,3,3],[3,6,9]),([10,3],[3,10]),([3,11],[3,11]),([12,10],[12])])
def replica_Both.B6:List Nat:=[0,1,3,7,15,31,63,15,143,399,1023,2047,4095,8191]
theorem replica_Both.tab6:rtab .any (opsOf Try.f73 6) = replica_Both.T6:=by kernel_rfl
theorem replica_Both.bits6:waitsOk replica_Both.T6.2 replica_Both.B6 = true:=by kernel_rfl
def replica_Both.T7:Bool × List (List Nat × List Nat):=(true,[([],[]),([],[]),([1],[1]),([2],[2]),([3],[3]),([0,4],[0,4]),([],[]),([6],[6]),([5,5,0,1,2,3,4,5],[0,5]),([7,8,0,1,2,3,4,5,6,7,8],[1,6,7])])
def replica_Both.B7:List Nat:=[0,0,2,6,14,31,0,64,63,511]
theorem replica_Both.tab7:rtab .any (opsOf Try.f73 7) = replica_Both.T7:=by kernel_rfl
theorem replica_Both.bits7:waitsOk replica_Both.T7.2 replica_Both.B7 = true:=by kernel_rfl
def replica_Both.T8:Bool × List (List Nat × List Nat):=(true,[([],[]),([0],[0]),([1],[1]),([],[]),([3],[3]),([4],[4]),([2,5],[2,5]),([6],[6])])
def replica_Both.B8:List Nat:=[0,1,3,0,8,24,63,127]
theorem replica_Both.tab8:rtab .any (opsOf Try.f73 8) = replica_Both.T8:=by kernel_rfl
theorem replica_Both.bits8:waitsOk replica_Both.T8.2 replica_Both.B8 = true:=by kernel_rfl
set_option maxHeartbeats 8000000 in
set_option maxRecDepth 100000 in
theorem replica_Both.calls (k:Nat) (P0_:Nat → Prop) (A0:Option Addr) (c0:Nat) (l0:List (S128)) (P1_:Nat → Prop) (A1:Option Addr) (c1:Nat) (l1:List (S128)) (r1:List (S128)) (r2:Int) (w:World) (hs0:Kd.V k128 128 w w.heap.size (fun k_=>P0_ k_) (.slice A0 l0.length c0) l0) (hs1:Kd.V k128 128 w w.heap.size (fun k_=>P1_ k_) (.slice A1 l1.length c1) l1) (h:replica_Both.f k l0 l1 = some (r1,r2)) :
 Calls Try.prog 73 #[.slice A0 l0.length c0,.slice A1 l1.length c1] w fun e w'=>∃ v0_:Value,e = .returned (.tuple #[v0_,.int .i64 r2]) ∧ Kd.R k128 128 w' w.heap.size (fun k_=>(w.heap.size ≤ k_)) v0_ r1 ∧ Below w.heap.size w w':=by
 have hu128:=Try.underlying128
 have HO0:=Aside0.mk (show Kd.V k128 128 w w.heap.size (fun k_=>((P0_ k_ ∨ P1_ k_) ∨ w.heap.size ≤ k_)) (.slice A0 l0.length c0) l0 from Kd.V_mono hs0 (fun k_ hk=>.inl (.inl hk)))
 have HO1:=Aside0.mk (show Kd.V k128 128 w w.heap.size (fun k_=>((P0_ k_ ∨ P1_ k_) ∨ w.heap.size ≤ k_)) (.slice A1 l1.length c1) l1 from Kd.V_mono hs1 (fun k_ hk=>.inl (.inr hk)))
 have HB:=Aside0.mk (Below.refl w.heap.size w)
 have H:(replica_Both.l0 k l0 l1 ([]:List (S128))) = some (r1,r2):=h
 clear h
 have H':=Aside0.mk H
 clear H
 go_enter Try.func73,Try.ntmps73
 go_wp2
 go_loopg [0,1,6] k (fun kq v0 v1 v6 w'=>∃ (x0_1:List (S128)) (x1_1:List (S128)) (x6_1:List (S128)),Aside0 (replica_Both.l0 kq x0_1 x1_1 x6_1 = some (r1,r2)) ∧ Aside0 (kq ≤ k) ∧ Aside0 (Kd.V k128 128 w' w.heap.size (fun k_=>((P0_ k_ ∨ P1_ k_) ∨ w.heap.size ≤ k_) ∧ some k_ ≠ (v6:Value).ownBlock) v0 x0_1) ∧ Aside0 (Kd.V k128 128 w' w.heap.size (fun k_=>((P0_ k_ ∨ P1_ k_) ∨ w.heap.size ≤ k_) ∧ some k_ ≠ (v6:Value).ownBlock) v1 x1_1) ∧ Aside0 (Kd.R k128 128 w' w.heap.size (fun k_=>(w.heap.size ≤ k_)) v6 x6_1) ∧ Aside0 (Below w.heap.size w w'))
 case atStart=>exact ⟨(l0),(l1),(([]:List (S128))),H',⟨Nat.le_refl _⟩,⟨by exact Kd.V_mono HO0.out (fun _ hk=>⟨hk,(by simp [Value.ownBlock])⟩)⟩,⟨by exact Kd.V_mono HO1.out (fun _ hk=>⟨hk,(by simp [Value.ownBlock])⟩)⟩,⟨by exact Kd.R_nil _ _ _ _ _⟩,⟨HB.out⟩⟩
 case round =>
  clear H'
  obtain ⟨x0_1,x1_1,x6_1,HA,HK1,HO_0,HO_1,HO_6,HB⟩:=hrel
  cases gk with
  | zero=>exact absurd HA.out (by simp [replica_Both.l0])
  | succ k1 =>
   have H:=HA.out
   clear HA
   simp only [replica_Both.l0] at H
   have HC3:=Aside0.mk H
   clear H
   go_upto_region 2 with (fail)
   go_cut [14] (fun v14 wc=>∃ (kq:Nat) (x14_2:Bool),v14 = .bool x14_2 ∧ Aside0 (replica_Both.j1 kq x0_1 x1_1 x6_1 x14_2 = some (r1,r2)) ∧ Aside0 (kq ≤ k1) ∧ Aside0 (Kd.V k128 128 wc w.heap.size (fun k_=>((P0_ k_ ∨ P1_ k_) ∨ w.heap.size ≤ k_) ∧ some k_ ≠ (u6:Value).ownBlock) u0 x0_1) ∧ Aside0 (Kd.V k128 128 wc w.heap.size (fun k_=>((P0_ k_ ∨ P1_ k_) ∨ w.heap.size ≤ k_) ∧ some k_ ≠ (u6:Value).ownBlock) u1 x1_1) ∧ Aside0 (Kd.R k128 128 wc w.heap.size (fun k_=>(w.heap.size ≤ k_)) u6 x6_1) ∧ Aside0 (Below w.heap.size w wc))
   case first =>
    have H:=HC3.out
    clear HC3
    by_cases c4:(x0_1.length:Int) > 0
    ·rw [if_pos c4] at H
     have c4b0:decide (0 < (x0_1.length:Int)) = true:=decide_eq_true c4
     have c4b1:decide (0 < x0_1.length) = true:=decide_eq_true (by omega)
     clear c4
     (skip)
     have H':=Aside0.mk H
     clear H
     obtain ⟨Ao5,co5,eo5⟩:=Kd.V_slice HO_0.out
     subst eo5
     go_wp2
     go_meet
     case rel=>exact ⟨_,(true),(by rfl),H',⟨by have:=HK1.out;omega⟩,⟨by exact HO_0.out⟩,⟨by exact HO_1.out⟩,⟨by exact HO_6.out⟩,⟨HB.out⟩⟩
    ·rw [if_neg c4] at H
     have c4b0:decide (0 < (x0_1.length:Int)) = false:=decide_eq_false c4
     have c4b1:decide (0 < x0_1.length) = false:=decide_eq_false (by omega)
     clear c4
     (skip)
     have H':=Aside0.mk H
     clear H
     obtain ⟨Ao6,co6,eo6⟩:=Kd.V_slice HO_0.out
     subst eo6
     obtain ⟨Ao7,co7,eo7⟩:=Kd.V_slice HO_1.out
     subst eo7
     go_wp2
     go_meet
     case rel=>exact ⟨_,(decide ((x1_1.length:Int) > 0)),(by (simp;done)),H',⟨by have:=HK1.out;omega⟩,⟨by exact HO_0.out⟩,⟨by exact HO_1.out⟩,⟨by exact HO_6.out⟩,⟨HB.out⟩⟩
   case rest =>
    clear HC3
    obtain ⟨kq,x14_2,rfl,HA,HJ2,HO_0,HO_1,HO_6,HB⟩:=hcut
    cases kq with
    | zero=>exact absurd HA.out (by simp [replica_Both.j1])
    | succ kj2 =>
     have H:=HA.out
     clear HA
     simp only [replica_Both.j1] at H
     by_cases c8:x14_2 = true
     ·subst c8
      have H1:(if (x1_1.length:Int) = 0 then (replica_Both.j2 kj2 x0_1 x1_1 x6_1 true) else (if (x0_1.length:Int) > 0 then (if 0 < (x0_1.length:Int) then (if 0 < (x1_1.length:Int) then ((replica_stamps.f kj2 ((rd_T128 x0_1 0).f0) ((rd_T128 x0_1 0).f1) ((rd_T128 x0_1 0).f2) ((rd_T128 x0_1 0).f3) ((rd_T128 x0_1 0).f4) ((rd_T128 x0_1 0).f5) ((rd_T128 x0_1 0).f6) ((rd_T128 x0_1 0).f7) ((rd_T128 x1_1 0).f0) ((rd_T128 x1_1 0).f1) ((rd_T128 x1_1 0).f2) ((rd_T128 x1_1 0).f3) ((rd_T128 x1_1 0).f4) ((rd_T128 x1_1 0).f5) ((rd_T128 x1_1 0).f6) ((rd_T128 x1_1 0).f7)).bind fun t132=>(replica_Both.j2 kj2 x0_1 x1_1 x6_1 (decide (t132 < 0)))) else (none)) else (none)) else (replica_Both.j2 kj2 x0_1 x1_1 x6_1 false))) = some (r1,r2):=by rw [if_pos rfl] at H;exact H
      clear H
      have H:=H1
      clear H1
      have HC9:=Aside0.mk H
      clear H
      go_upto_region 4 with (fail)
      go_cut [25] (fun v25 wc=>∃ (kq:Nat) (x25_8:Bool),v25 = .bool x25_8 ∧ Aside0 (replica_Both.j2 kq x0_1 x1_1 x6_1 x25_8 = some (r1,r2)) ∧ Aside0 (kq ≤ kj2) ∧ Aside0 (Kd.V k128 128 wc w.heap.size (fun k_=>((P0_ k_ ∨ P1_ k_) ∨ w.heap.size ≤ k_) ∧ some k_ ≠ (u6:Value).ownBlock) u0 x0_1) ∧ Aside0 (Kd.V k128 128 wc w.heap.size (fun k_=>((P0_ k_ ∨ P1_ k_) ∨ w.heap.size ≤ k_) ∧ some k_ ≠ (u6:Value).ownBlock) u1 x1_1) ∧ Aside0 (Kd.R k128 128 wc w.heap.size (fun k_=>(w.heap.size ≤ k_)) u6 x6_1) ∧ Aside0 (Below w.heap.size w wc))
      case first =>
       have H:=HC9.out
       clear HC9
       by_cases c10:(x1_1.length:Int) = 0
       ·rw [if_pos c10] at H
        have c10b0:((x1_1.length:Int) == 0) = true:=beq_iff_eq.mpr c10
        have c10b1:((x1_1.length:Int) != 0) = false:=bne_eq_false_iff_eq.mpr c10
        clear c10
        (skip)
        have H':=Aside0.mk H
        clear H
        try go_wp2
        have n0_:=Aside0.mk (Kd.V_drew HO_0.out)
        have n1_:=Aside0.mk (Kd.V_drew HO_1.out)
        have n2_:=Aside0.mk (Kd.R_drew HO_6.out)
        have n3_:=Aside0.mk (below_drew1 HB.out)
        clear HO_0
        clear HO_1
        clear HO_6
        clear HB
        have HO_0:=n0_
        have HO_1:=n1_
        have HO_6:=n2_
        have HB:=n3_
        clear n0_ n1_ n2_ n3_
        obtain ⟨Ao12,co12,eo12⟩:=Kd.V_slice HO_1.out
        (subst eo12)
        refine start_ (n:=19) (S:=fun w'=>True) (ds:=[]) #[false,false,false,false,false,false,false,false,false,false,false,false,false,false,false,false,false,false,false] (by kernel_rfl) rfl rfl trivial (fun hHeld=>?_);refine with_tabW replica_Both.tab4 replica_Both.bits4 (fun HT_ HW_=>?_)
        generalize wc.drew = w11 at HO_0 HO_1 HO_6 HB hHeld ⊢
        refine pure_ (i:=0) (N:=some 26) (v:=?_) (a':=?_) (bm 1 19) rfl rfl (any_of HT_.out (by kernel_rfl)) (fun _ _ _ h=>h) (Or.inl ⟨by rfl,?_⟩) ?_ ?_
        rotate_left
        ·intro w'
         go_simp
         with_reducible rfl
        rotate_left
        ·simp only [Act.put,sA,sB,sC,i64_w,i32_w]
         rfl
        refine pure_ (i:=1) (N:=some 27) (v:=?_) (a':=?_) (bm 3 19) rfl rfl (any_of HT_.out (by kernel_rfl)) (fun _ _ _ h=>h) (Or.inl ⟨by rfl,?_⟩) ?_ ?_
        rotate_left
        ·intro w'
         go_simp
         with_reducible rfl
        rotate_left
        ·simp only [Act.put,sA,sB,sC,i64_w,i32_w]
         rfl
        refine pure_ (i:=2) (N:=some 28) (v:=?_) (a':=?_) (bm 7 19) rfl rfl (any_of HT_.out (by kernel_rfl)) (fun _ _ _ h=>h) (Or.inl ⟨by rfl,?_⟩) ?_ ?_
        rotate_left
        ·intro w'
         go_simp
         with_reducible rfl
        rotate_left
        ·simp only [Act.put,sA,sB,sC,i64_w,i32_w]
         rfl
        refine pure_ (i:=3) (N:=some 29) (v:=?_) (a':=?_) (bm 15 19) rfl rfl (any_of HT_.out (by kernel_rfl)) (fun _ _ _ h=>h) (Or.inl ⟨by rfl,?_⟩) ?_ ?_
        rotate_left
        ·intro w'
         go_simp
         with_reducible rfl
        rotate_left
        ·simp only [Act.put,sA,sB,sC,i64_w,i32_w]
         rfl
        refine pure_ (i:=4) (N:=some 30) (v:=undef) (a':=?_) (bm 31 19) rfl rfl (any_of HT_.out (by kernel_rfl)) (fun _ _ _ h=>h) (Or.inr ⟨by rfl,rfl⟩) ?_ ?_
        rotate_left
        ·simp only [Act.put,sA,sB,sC,i64_w,i32_w]
         rfl
        refine pure_ (i:=5) (N:=some 31) (v:=undef) (a':=?_) (bm 63 19) rfl rfl (any_of HT_.out (by kernel_rfl)) (fun _ _ _ h=>h) (Or.inr ⟨by rfl,rfl⟩) ?_ ?_
        rotate_left
        ·simp only [Act.put,sA,sB,sC,i64_w,i32_w]
         rfl
        refine pure_ (i:=6) (N:=some 32) (v:=undef) (a':=?_) (bm 127 19) rfl rfl (any_of HT_.out (by kernel_rfl)) (fun _ _ _ h=>h) (Or.inr ⟨by rfl,rfl⟩) ?_ ?_
        rotate_left
        ·simp only [Act.put,sA,sB,sC,i64_w,i32_w]
         rfl
        refine pure_ (i:=7) (N:=some 33) (v:=undef) (a':=?_) (bm 255 19) rfl rfl (any_of HT_.out (by kernel_rfl)) (fun _ _ _ h=>h) (Or.inr ⟨by rfl,rfl⟩) ?_ ?_
        rotate_left
        ·simp only [Act.put,sA,sB,sC,i64_w,i32_w]
         rfl
        refine pure_ (i:=8) (N:=some 34) (v:=undef) (a':=?_) (bm 511 19) rfl rfl (any_of HT_.out (by kernel_rfl)) (fun _ _ _ h=>h) (Or.inr ⟨by rfl,rfl⟩) ?_ ?_
        rotate_left
        ·simp only [Act.put,sA,sB,sC,i64_w,i32_w]
         rfl
        refine pure_ (i:=9) (N:=some 35) (v:=undef) (a':=?_) (bm 1023 19) rfl rfl (any_of HT_.out (by kernel_rfl)) (fun _ _ _ h=>h) (Or.inr ⟨by rfl,rfl⟩) ?_ ?_
        rotate_left
        ·simp only [Act.put,sA,sB,sC,i64_w,i32_w]
         rfl
        refine pure_ (i:=10) (N:=some 36) (v:=undef) (a':=?_) (bm 2047 19) rfl rfl (any_of HT_.out (by kernel_rfl)) (fun _ _ _ h=>h) (Or.inr ⟨by rfl,rfl⟩) ?_ ?_
        rotate_left
        ·simp only [Act.put,sA,sB,sC,i64_w,i32_w]
         rfl
        refine pure_ (i:=11) (N:=some 37) (v:=undef) (a':=?_) (bm 4095 19) rfl rfl (any_of HT_.out (by kernel_rfl)) (fun _ _ _ h=>h) (Or.inr ⟨by rfl,rfl⟩) ?_ ?_
        rotate_left
        ·simp only [Act.put,sA,sB,sC,i64_w,i32_w]
         rfl
        refine pure_ (i:=12) (N:=some 38) (v:=undef) (a':=?_) (bm 8191 19) rfl rfl (any_of HT_.out (by kernel_rfl)) (fun _ _ _ h=>h) (Or.inr ⟨by rfl,rfl⟩) ?_ ?_
        rotate_left
        ·simp only [Act.put,sA,sB,sC,i64_w,i32_w]
         rfl
        refine pure_ (i:=13) (N:=some 39) (v:=undef) (a':=?_) (bm 16383 19) rfl rfl (any_of HT_.out (by kernel_rfl)) (fun _ _ _ h=>h) (Or.inr ⟨by rfl,rfl⟩) ?_ ?_
        rotate_left
        ·simp only [Act.put,sA,sB,sC,i64_w,i32_w]
         rfl
        refine pure_ (i:=14) (N:=some 40) (v:=undef) (a':=?_) (bm 32767 19) rfl rfl (any_of HT_.out (by kernel_rfl)) (fun _ _ _ h=>h) (Or.inr ⟨by rfl,rfl⟩) ?_ ?_
        rotate_left
        ·simp only [Act.put,sA,sB,sC,i64_w,i32_w]
         rfl
        refine pure_ (i:=15) (N:=some 41) (v:=undef) (a':=?_) (bm 65535 19) rfl rfl (any_of HT_.out (by kernel_rfl)) (fun _ _ _ h=>h) (Or.inr ⟨by rfl,rfl⟩) ?_ ?_
        rotate_left
        ·simp only [Act.put,sA,sB,sC,i64_w,i32_w]
         rfl
        refine pure_ (i:=16) (N:=some 42) (v:=undef) (a':=?_) (bm 131071 19) rfl rfl (any_of HT_.out (by kernel_rfl)) (fun _ _ _ h=>h) (Or.inr ⟨by rfl,rfl⟩) ?_ ?_
        rotate_left
        ·simp only [Act.put,sA,sB,sC,i64_w,i32_w]
         rfl
        refine pure_ (i:=17) (N:=some 43) (v:=?_) (a':=?_) (bm 262143 19) rfl rfl (any_of HT_.out (by kernel_rfl)) (fun _ _ _ h=>h) (Or.inl ⟨by rfl,?_⟩) ?_ ?_
        rotate_left
        ·intro w'
         go_simp
         with_reducible rfl
        rotate_left
        ·simp only [Act.put,sA,sB,sC,i64_w,i32_w]
         rfl
        refine pure_ (i:=18) (N:=some 25) (v:=?_) (a':=?_) (bm 524287 19) rfl rfl (any_of HT_.out (by kernel_rfl)) (fun _ _ _ h=>h) (Or.inl ⟨by rfl,?_⟩) ?_ ?_
        rotate_left
        ·intro w'
         go_simp
         with_reducible rfl
        rotate_left
        ·simp only [Act.put,sA,sB,sC,i64_w,i32_w]
         rfl
        refine done_ (done_of HT_.out (by kernel_rfl)) ?_
        try go_wp2
        go_meet
        case rel=>exact ⟨_,(true),(by rfl),H',⟨by have:=HK1.out;have:=HJ2.out;omega⟩,⟨by exact HO_0.out⟩,⟨by exact HO_1.out⟩,⟨by exact HO_6.out⟩,⟨HB.out⟩⟩
       ·rw [if_neg c10] at H
        have c10b0:((x1_1.length:Int) == 0) = false:=beq_eq_false_iff_ne.mpr c10
        have c10b1:((x1_1.length:Int) != 0) = true:=bne_iff_ne.mpr c10
        have c10b2:¬ (x1_1 = []):=fun h_=>c10 (by rw [h_];rfl)
        (skip)
        by_cases c13:(x0_1.length:Int) > 0
        ·rw [if_pos c13] at H
         have c13b0:decide (0 < (x0_1.length:Int)) = true:=decide_eq_true c13
         have c13b1:decide (0 < x0_1.length) = true:=decide_eq_true (by omega)
         clear c13
         by_cases c14:0 < (x0_1.length:Int)
         ·rw [if_pos c14] at H
          have c14b0:decide (0 < (x0_1.length:Int)) = true:=decide_eq_true c14
          have c14b1:decide (0 < x0_1.length) = true:=decide_eq_true (by omega)
          clear c14
          by_cases c15:0 < (x1_1.length:Int)
          ·rw [if_pos c15] at H
           have c15b0:decide (0 < (x1_1.length:Int)) = true:=decide_eq_true c15
           have c15b1:decide (0 < x1_1.length) = true:=decide_eq_true (by omega)
           clear c15
           replace H:=Option.bind_eq_some_iff.mp H
           obtain ⟨t132,A160,H⟩:=H
           replace H:(replica_Both.j2 kj2 x0_1 x1_1 x6_1 (decide (t132 < 0))) = some (r1,r2):=H
           have A16:=Aside0.mk A160
           clear A160
           have H':=Aside0.mk H
           clear H
           try go_wp2
           have n0_:=Aside0.mk (Kd.V_drew HO_0.out)
           have n1_:=Aside0.mk (Kd.V_drew HO_1.out)
           have n2_:=Aside0.mk (Kd.R_drew HO_6.out)
           have n3_:=Aside0.mk (below_drew1 HB.out)
           clear HO_0
           clear HO_1
           clear HO_6
           clear HB
           have HO_0:=n0_
           have HO_1:=n1_
           have HO_6:=n2_
           have HB:=n3_
           clear n0_ n1_ n2_ n3_
           obtain ⟨Ao18,co18,eo18⟩:=Kd.V_slice HO_1.out
           (subst eo18)
           obtain ⟨Ao19,co19,eo19⟩:=Kd.V_slice HO_0.out
           (subst eo19)
           have p130:0 ≤ (0:Int):=(by omega)
           have q130:0 < (x0_1.length:Int):=of_decide_eq_true (by assumption)
           obtain ⟨ad130,e130,hx130_0,hx130_1,hx130_2,hx130_3,hx130_4,hx130_5,hx130_6,hx130_7⟩:=at_T128 (Kd.V_reads' HO_0.out).2.2 0 p130 q130
           cases e130
           have qi130:(0 < x0_1.length) = True:=eq_true (by omega)
           (try rw [show ((0:Int)).toNat = 0 from rfl] at hx130_0)
           (try rw [show 0 * 8 = 0 from rfl] at hx130_0)
           (try rw [Addr.add_zero'] at hx130_0)
           (try rw [show ((0:Int)).toNat = 0 from rfl] at hx130_1)
           (try rw [show 0 * 8 = 0 from rfl] at hx130_1)
           (try rw [Addr.add_zero'] at hx130_1)
           (try rw [show ((0:Int)).toNat = 0 from rfl] at hx130_2)
           (try rw [show 0 * 8 = 0 from rfl] at hx130_2)
           (try rw [Addr.add_zero'] at hx130_2)
           (try rw [show ((0:Int)).toNat = 0 from rfl] at hx130_3)
           (try rw [show 0 * 8 = 0 from rfl] at hx130_3)
           (try rw [Addr.add_zero'] at hx130_3)
           (try rw [show ((0:Int)).toNat = 0 from rfl] at hx130_4)
           (try rw [show 0 * 8 = 0 from rfl] at hx130_4)
           (try rw [Addr.add_zero'] at hx130_4)
           (try rw [show ((0:Int)).toNat = 0 from rfl] at hx130_5)
           (try rw [show 0 * 8 = 0 from rfl] at hx130_5)
           (try rw [Addr.add_zero'] at hx130_5)
           (try rw [show ((0:Int)).toNat = 0 from rfl] at hx130_6)
           (try rw [show 0 * 8 = 0 from rfl] at hx130_6)
           (try rw [Addr.add_zero'] at hx130_6)
           (try rw [show ((0:Int)).toNat = 0 from rfl] at hx130_7)
           (try rw [show 0 * 8 = 0 from rfl] at hx130_7)
           (try rw [Addr.add_zero'] at hx130_7)
           replace p130:=eq_true p130
           replace q130:=eq_true q130
           have p131:0 ≤ (0:Int):=(by omega)
           have q131:0 < (x1_1.length:Int):=of_decide_eq_true (by assumption)
           obtain ⟨ad131,e131,hx131_0,hx131_1,hx131_2,hx131_3,hx131_4,hx131_5,hx131_6,hx131_7⟩:=at_T128 (Kd.V_reads' HO_1.out).2.2 0 p131 q131
           cases e131
           have qi131:(0 < x1_1.length) = True:=eq_true (by omega)
           (try rw [show ((0:Int)).toNat = 0 from rfl] at hx131_0)
           (try rw [show 0 * 8 = 0 from rfl] at hx131_0)
           (try rw [Addr.add_zero'] at hx131_0)
           (try rw [show ((0:Int)).toNat = 0 from rfl] at hx131_1)
           (try rw [show 0 * 8 = 0 from rfl] at hx131_1)
           (try rw [Addr.add_zero'] at hx131_1)
           (try rw [show ((0:Int)).toNat = 0 from rfl] at hx131_2)
           (try rw [show 0 * 8 = 0 from rfl] at hx131_2)
           (try rw [Addr.add_zero'] at hx131_2)
           (try rw [show ((0:Int)).toNat = 0 from rfl] at hx131_3)
           (try rw [show 0 * 8 = 0 from rfl] at hx131_3)
           (try rw [Addr.add_zero'] at hx131_3)
           (try rw [show ((0:Int)).toNat = 0 from rfl] at hx131_4)
           (try rw [show 0 * 8 = 0 from rfl] at hx131_4)
           (try rw [Addr.add_zero'] at hx131_4)
           (try rw [show ((0:Int)).toNat = 0 from rfl] at hx131_5)
           (try rw [show 0 * 8 = 0 from rfl] at hx131_5)
           (try rw [Addr.add_zero'] at hx131_5)
           (try rw [show ((0:Int)).toNat = 0 from rfl] at hx131_6)
           (try rw [show 0 * 8 = 0 from rfl] at hx131_6)
           (try rw [Addr.add_zero'] at hx131_6)
           (try rw [show ((0:Int)).toNat = 0 from rfl] at hx131_7)
           (try rw [show 0 * 8 = 0 from rfl] at hx131_7)
           (try rw [Addr.add_zero'] at hx131_7)
           replace p131:=eq_true p131
           replace q131:=eq_true q131
           refine start_ (n:=19) (S:=fun w'=>w'.cell? ad130 = some (.int .i64 ((rd_T128 x0_1 0).f0)) ∧ w'.cell? ⟨ad130.block,ad130.off + 1,none⟩ = some (.int .i64 ((rd_T128 x0_1 0).f1)) ∧ w'.cell? ⟨ad130.block,ad130.off + 2,none⟩ = some (.int .i64 ((rd_T128 x0_1 0).f2)) ∧ w'.cell? ⟨ad130.block,ad130.off + 3,none⟩ = some (.int .i64 ((rd_T128 x0_1 0).f3)) ∧ w'.cell? ⟨ad130.block,ad130.off + 4,none⟩ = some (.int .i64 ((rd_T128 x0_1 0).f4)) ∧ w'.cell? ⟨ad130.block,ad130.off + 5,none⟩ = some (.string ((rd_T128 x0_1 0).f5)) ∧ w'.cell? ⟨ad130.block,ad130.off + 6,none⟩ = some (.string ((rd_T128 x0_1 0).f6)) ∧ w'.cell? ⟨ad130.block,ad130.off + 7,none⟩ = some (.string ((rd_T128 x0_1 0).f7)) ∧ w'.cell? ad131 = some (.int .i64 ((rd_T128 x1_1 0).f0)) ∧ w'.cell? ⟨ad131.block,ad131.off + 1,none⟩ = some (.int .i64 ((rd_T128 x1_1 0).f1)) ∧ w'.cell? ⟨ad131.block,ad131.off + 2,none⟩ = some (.int .i64 ((rd_T128 x1_1 0).f2)) ∧ w'.cell? ⟨ad131.block,ad131.off + 3,none⟩ = some (.int .i64 ((rd_T128 x1_1 0).f3)) ∧ w'.cell? ⟨ad131.block,ad131.off + 4,none⟩ = some (.int .i64 ((rd_T128 x1_1 0).f4)) ∧ w'.cell? ⟨ad131.block,ad131.off + 5,none⟩ = some (.string ((rd_T128 x1_1 0).f5)) ∧ w'.cell? ⟨ad131.block,ad131.off + 6,none⟩ = some (.string ((rd_T128 x1_1 0).f6)) ∧ w'.cell? ⟨ad131.block,ad131.off + 7,none⟩ = some (.string ((rd_T128 x1_1 0).f7))) (ds:=[]) #[false,false,false,false,false,false,false,false,false,false,false,false,false,false,false,false,false,false,false] (by kernel_rfl) rfl rfl ⟨hx130_0,hx130_1,hx130_2,hx130_3,hx130_4,hx130_5,hx130_6,hx130_7,hx131_0,hx131_1,hx131_2,hx131_3,hx131_4,hx131_5,hx131_6,hx131_7⟩ (fun hHeld=>?_);refine with_tabW replica_Both.tab4 replica_Both.bits4 (fun HT_ HW_=>?_)
           generalize wc.drew = w17 at HO_0 HO_1 HO_6 HB hx130_0 hx130_1 hx130_2 hx130_3 hx130_4 hx130_5 hx130_6 hx130_7 hx131_0 hx131_1 hx131_2 hx131_3 hx131_4 hx131_5 hx131_6 hx131_7 hHeld ⊢
           refine pure_ (i:=0) (N:=some 26) (v:=?_) (a':=?_) (bm 1 19) rfl rfl (any_of HT_.out (by kernel_rfl)) (fun _ _ _ h=>h) (Or.inl ⟨by rfl,?_⟩) ?_ ?_
           rotate_left
           ·intro w'
            go_simp
            with_reducible rfl
           rotate_left
           ·simp only [Act.put,sA,sB,sC,i64_w,i32_w]
            rfl
           refine pure_ (i:=1) (N:=some 27) (v:=?_) (a':=?_) (bm 3 19) rfl rfl (any_of HT_.out (by kernel_rfl)) (fun _ _ _ h=>h) (Or.inl ⟨by rfl,?_⟩) ?_ ?_
           rotate_left
           ·intro w'
            go_simp
            with_reducible rfl
           rotate_left
           ·simp only [Act.put,sA,sB,sC,i64_w,i32_w]
            rfl
           refine pure_ (i:=2) (N:=some 28) (v:=?_) (a':=?_) (bm 7 19) rfl rfl (any_of HT_.out (by kernel_rfl)) (fun _ _ _ h=>h) (Or.inl ⟨by rfl,?_⟩) ?_ ?_
           rotate_left
           ·intro w'
            go_simp
            with_reducible rfl
           rotate_left
           ·simp only [Act.put,sA,sB,sC,i64_w,i32_w]
            rfl
           refine pure_ (i:=3) (N:=some 29) (v:=?_) (a':=?_) (bm 15 19) rfl rfl (any_of HT_.out (by kernel_rfl)) (fun _ _ _ h=>h) (Or.inl ⟨by rfl,?_⟩) ?_ ?_
           rotate_left
           ·intro w'
            go_simp
            with_reducible rfl
           rotate_left
           ·simp only [Act.put,sA,sB,sC,i64_w,i32_w]
            rfl
           refine pure_ (i:=4) (N:=some 30) (v:=?_) (a':=?_) (bm 31 19) rfl rfl (any_of HT_.out (by kernel_rfl)) (fun _ _ _ h=>h) (Or.inl ⟨by rfl,?_⟩) ?_ ?_
           rotate_left
           ·intro w'
            go_simp
            with_reducible rfl
           rotate_left
           ·simp only [Act.put,sA,sB,sC,i64_w,i32_w]
            rfl
           refine pure_ (i:=5) (N:=some 31) (v:=?_) (a':=?_) (bm 63 19) rfl rfl (any_of HT_.out (by kernel_rfl)) (fun _ _ _ h=>h) (Or.inl ⟨by rfl,?_⟩) ?_ ?_
           rotate_left
           ·intro w'
            go_simp
            with_reducible rfl
           rotate_left
           ·simp only [Act.put,sA,sB,sC,i64_w,i32_w]
            rfl
           refine pure_ (i:=6) (N:=some 32) (v:=?_) (a':=?_) (bm 127 19) rfl rfl (any_of HT_.out (by kernel_rfl)) (fun _ _ _ h=>h) (Or.inl ⟨by rfl,?_⟩) ?_ ?_
           rotate_left
           ·intro w'
            go_simp
            with_reducible rfl
           rotate_left
           ·simp only [Act.put,sA,sB,sC,i64_w,i32_w]
            rfl
           refine pure_ (i:=7) (N:=some 33) (v:=?_) (a':=?_) (bm 255 19) rfl rfl (any_of HT_.out (by kernel_rfl)) (fun _ _ _ h=>h) (Or.inl ⟨by rfl,?_⟩) ?_ ?_
           rotate_left
           ·intro w'
            go_simp
            with_reducible rfl
           rotate_left
           ·simp only [Act.put,sA,sB,sC,i64_w,i32_w]
            rfl
           refine pure_ (i:=8) (N:=some 34) (v:=?_) (a':=?_) (bm 511 19) rfl rfl (any_of HT_.out (by kernel_rfl)) (fun _ _ _ h=>h) (Or.inl ⟨by rfl,?_⟩) ?_ ?_
           rotate_left
           ·intro w'
            go_simp
            with_reducible rfl
           rotate_left
           ·simp only [Act.put,sA,sB,sC,i64_w,i32_w]
            rfl
           refine pure_ (i:=9) (N:=some 35) (v:=?_) (a':=?_) (bm 1023 19) rfl rfl (any_of HT_.out (by kernel_rfl)) (fun _ _ _ h=>h) (Or.inl ⟨by rfl,?_⟩) ?_ ?_
           rotate_left
           ·intro w'
            go_simp
            with_reducible rfl
           rotate_left
           ·simp only [Act.put,sA,sB,sC,i64_w,i32_w]
            rfl
           refine pure_ (i:=11) (N:=some 37) (v:=?_) (a':=?_) (bm 3071 19) rfl rfl (any_of HT_.out (by kernel_rfl)) (fun _ _ _ h=>h) (Or.inl ⟨by rfl,?_⟩) ?_ ?_
           rotate_left
           ·intro w'
            go_simp
            with_reducible rfl
           rotate_left
           ·simp only [Act.put,sA,sB,sC,i64_w,i32_w]
            rfl
           refine pure_ (i:=12) (N:=some 38) (v:=?_) (a':=?_) (bm 7167 19) rfl rfl (any_of HT_.out (by kernel_rfl)) (fun _ _ _ h=>h) (Or.inl ⟨by rfl,?_⟩) ?_ ?_
           rotate_left
           ·intro w'
            go_simp
            with_reducible rfl
           rotate_left
           ·simp only [Act.put,sA,sB,sC,i64_w,i32_w]
            rfl
           refine take_ (i:=10) (N:=some 36) (v:=?_) (a':=?_) (bm 8191 19) rfl rfl (take_ofW HT_.out HW_.out (by kernel_rfl)) (fun _ _ _ h=>h) (Or.inl ⟨by rfl,?_⟩) hHeld ?_ ?_
           rotate_left
           ·rintro w' ⟨s0,s1,s2,s3,s4,s5,s6,s7,s8,s9,s10,s11,s12,s13,s14,s15⟩
            go_simp
            with_reducible rfl
           rotate_left
           ·simp only [Act.put,sA,sB,sC,i64_w,i32_w]
            rfl
           refine take_ (i:=13) (N:=some 39) (v:=?_) (a':=?_) (bm 16383 19) rfl rfl (take_ofW HT_.out HW_.out (by kernel_rfl)) (fun _ _ _ h=>h) (Or.inl ⟨by rfl,?_⟩) hHeld ?_ ?_
           rotate_left
           ·rintro w' ⟨s0,s1,s2,s3,s4,s5,s6,s7,s8,s9,s10,s11,s12,s13,s14,s15⟩
            go_simp
            with_reducible rfl
           rotate_left
           ·simp only [Act.put,sA,sB,sC,i64_w,i32_w]
            rfl
           refine one_ (i:=14) (N:=some 40) (bm 32767 19) rfl rfl (one_of HT_.out (by kernel_rfl)) (by decide) (fun K hK=>?_)
           refine goes_ Try.func107 (by kernel_rfl) rfl #[.agg #[.int .i64 ((rd_T128 x0_1 0).f0),.int .i64 ((rd_T128 x0_1 0).f1),.int .i64 ((rd_T128 x0_1 0).f2),.int .i64 ((rd_T128 x0_1 0).f3),.int .i64 ((rd_T128 x0_1 0).f4),.string ((rd_T128 x0_1 0).f5),.string ((rd_T128 x0_1 0).f6),.string ((rd_T128 x0_1 0).f7)],.agg #[.int .i64 ((rd_T128 x1_1 0).f0),.int .i64 ((rd_T128 x1_1 0).f1),.int .i64 ((rd_T128 x1_1 0).f2),.int .i64 ((rd_T128 x1_1 0).f3),.int .i64 ((rd_T128 x1_1 0).f4),.string ((rd_T128 x1_1 0).f5),.string ((rd_T128 x1_1 0).f6),.string ((rd_T128 x1_1 0).f7)]] (by rfl) rfl rfl (by (try simp only [List.map_toArray,List.map_cons,List.map_nil]);rfl) ?_
           with_reducible refine (replica_stamps.calls kj2 ((rd_T128 x0_1 0).f0) ((rd_T128 x0_1 0).f1) ((rd_T128 x0_1 0).f2) ((rd_T128 x0_1 0).f3) ((rd_T128 x0_1 0).f4) ((rd_T128 x0_1 0).f5) ((rd_T128 x0_1 0).f6) ((rd_T128 x0_1 0).f7) ((rd_T128 x1_1 0).f0) ((rd_T128 x1_1 0).f1) ((rd_T128 x1_1 0).f2) ((rd_T128 x1_1 0).f3) ((rd_T128 x1_1 0).f4) ((rd_T128 x1_1 0).f5) ((rd_T128 x1_1 0).f6) ((rd_T128 x1_1 0).f7) t132 _ A16.out).mono ?_
           rintro e w20 ⟨rfl,hb⟩
           have HS0_:=(hb.cell (World.block_lt_of_cell? _ _ (hHeld.1))).trans (hHeld.1)
           have HS1_:=(hb.cell (World.block_lt_of_cell? _ _ (hHeld.2.1))).trans (hHeld.2.1)
           have HS2_:=(hb.cell (World.block_lt_of_cell? _ _ (hHeld.2.2.1))).trans (hHeld.2.2.1)
           have HS3_:=(hb.cell (World.block_lt_of_cell? _ _ (hHeld.2.2.2.1))).trans (hHeld.2.2.2.1)
           have HS4_:=(hb.cell (World.block_lt_of_cell? _ _ (hHeld.2.2.2.2.1))).trans (hHeld.2.2.2.2.1)
           have HS5_:=(hb.cell (World.block_lt_of_cell? _ _ (hHeld.2.2.2.2.2.1))).trans (hHeld.2.2.2.2.2.1)
           have HS6_:=(hb.cell (World.block_lt_of_cell? _ _ (hHeld.2.2.2.2.2.2.1))).trans (hHeld.2.2.2.2.2.2.1)
           have HS7_:=(hb.cell (World.block_lt_of_cell? _ _ (hHeld.2.2.2.2.2.2.2.1))).trans (hHeld.2.2.2.2.2.2.2.1)
           have HS8_:=(hb.cell (World.block_lt_of_cell? _ _ (hHeld.2.2.2.2.2.2.2.2.1))).trans (hHeld.2.2.2.2.2.2.2.2.1)
           have HS9_:=(hb.cell (World.block_lt_of_cell? _ _ (hHeld.2.2.2.2.2.2.2.2.2.1))).trans (hHeld.2.2.2.2.2.2.2.2.2.1)
           have HS10_:=(hb.cell (World.block_lt_of_cell? _ _ (hHeld.2.2.2.2.2.2.2.2.2.2.1))).trans (hHeld.2.2.2.2.2.2.2.2.2.2.1)
           have HS11_:=(hb.cell (World.block_lt_of_cell? _ _ (hHeld.2.2.2.2.2.2.2.2.2.2.2.1))).trans (hHeld.2.2.2.2.2.2.2.2.2.2.2.1)
           have HS12_:=(hb.cell (World.block_lt_of_cell? _ _ (hHeld.2.2.2.2.2.2.2.2.2.2.2.2.1))).trans (hHeld.2.2.2.2.2.2.2.2.2.2.2.2.1)
           have HS13_:=(hb.cell (World.block_lt_of_cell? _ _ (hHeld.2.2.2.2.2.2.2.2.2.2.2.2.2.1))).trans (hHeld.2.2.2.2.2.2.2.2.2.2.2.2.2.1)
           have HS14_:=(hb.cell (World.block_lt_of_cell? _ _ (hHeld.2.2.2.2.2.2.2.2.2.2.2.2.2.2.1))).trans (hHeld.2.2.2.2.2.2.2.2.2.2.2.2.2.2.1)
           have HS15_:=(hb.cell (World.block_lt_of_cell? _ _ (hHeld.2.2.2.2.2.2.2.2.2.2.2.2.2.2.2))).trans (hHeld.2.2.2.2.2.2.2.2.2.2.2.2.2.2.2)
           refine ⟨_,rfl,?_⟩
           have n0_:=Aside0.mk (Kd.V_below HO_0.out hb)
           have n1_:=Aside0.mk (Kd.V_below HO_1.out hb)
           have n2_:=Aside0.mk (Kd.R_below HO_6.out hb)
           have n3_:=Aside0.mk (below_step (by with_reducible exact HB.out) hb)
           clear HO_0
           clear HO_1
           clear HO_6
           clear HB
           have HO_0:=n0_
           have HO_1:=n1_
           have HO_6:=n2_
           have HB:=n3_
           clear n0_ n1_ n2_ n3_
           (try clear hb)
           (try clear hb2)
           (try clear hk)
           (try clear hi)
           refine hK.out _ _ ⟨HS0_,HS1_,HS2_,HS3_,HS4_,HS5_,HS6_,HS7_,HS8_,HS9_,HS10_,HS11_,HS12_,HS13_,HS14_,HS15_⟩ (fun hHeld=>?_)
           clear hK K
           refine norm_ (a':=?_) ?_ ?_
           rotate_left
           ·show Act.put _ (some 40) _ = _
            simp only [Act.put,sA,sB,sC,i64_w,i32_w]
            rfl
           refine pure_ (i:=15) (N:=some 41) (v:=?_) (a':=?_) (bm 65535 19) rfl rfl (any_of HT_.out (by kernel_rfl)) (fun _ _ _ h=>h) (Or.inl ⟨by rfl,?_⟩) ?_ ?_
           rotate_left
           ·intro w'
            go_simp
            with_reducible rfl
           rotate_left
           ·simp only [Act.put,sA,sB,sC,i64_w,i32_w]
            rfl
           refine pure_ (i:=16) (N:=some 42) (v:=?_) (a':=?_) (bm 131071 19) rfl rfl (any_of HT_.out (by kernel_rfl)) (fun _ _ _ h=>h) (Or.inl ⟨by rfl,?_⟩) ?_ ?_
           rotate_left
           ·intro w'
            go_simp
            with_reducible rfl
           rotate_left
           ·simp only [Act.put,sA,sB,sC,i64_w,i32_w]
            rfl
           refine pure_ (i:=17) (N:=some 43) (v:=?_) (a':=?_) (bm 262143 19) rfl rfl (any_of HT_.out (by kernel_rfl)) (fun _ _ _ h=>h) (Or.inl ⟨by rfl,?_⟩) ?_ ?_
           rotate_left
           ·intro w'
            go_simp
            with_reducible rfl
           rotate_left
           ·simp only [Act.put,sA,sB,sC,i64_w,i32_w]
            rfl
           refine pure_ (i:=18) (N:=some 25) (v:=?_) (a':=?_) (bm 524287 19) rfl rfl (any_of HT_.out (by kernel_rfl)) (fun _ _ _ h=>h) (Or.inl ⟨by rfl,?_⟩) ?_ ?_
           rotate_left
           ·intro w'
            go_simp
            with_reducible rfl
           rotate_left
           ·simp only [Act.put,sA,sB,sC,i64_w,i32_w]
            rfl
           refine done_ (done_of HT_.out (by kernel_rfl)) ?_
           try go_wp2
           go_meet
           case rel=>exact ⟨_,(decide (t132 < 0)),(by rfl),H',⟨by have:=HK1.out;have:=HJ2.out;omega⟩,⟨by exact HO_0.out⟩,⟨by exact HO_1.out⟩,⟨by exact HO_6.out⟩,⟨HB.out⟩⟩
          ·rw [if_neg c15] at H
           exact absurd H (by simp)
         ·rw [if_neg c14] at H
          exact absurd H (by simp)
        ·rw [if_neg c13] at H
         have c13b0:decide (0 < (x0_1.length:Int)) = false:=decide_eq_false c13
         have c13b1:decide (0 < x0_1.length) = false:=decide_eq_false (by omega)
         clear c13
         have H':=Aside0.mk H
         clear H
         try go_wp2
         have n0_:=Aside0.mk (Kd.V_drew HO_0.out)
         have n1_:=Aside0.mk (Kd.V_drew HO_1.out)
         have n2_:=Aside0.mk (Kd.R_drew HO_6.out)
         have n3_:=Aside0.mk (below_drew1 HB.out)
         clear HO_0
         clear HO_1
         clear HO_6
         clear HB
         have HO_0:=n0_
         have HO_1:=n1_
         have HO_6:=n2_
         have HB:=n3_
         clear n0_ n1_ n2_ n3_
         obtain ⟨Ao22,co22,eo22⟩:=Kd.V_slice HO_1.out
         (subst eo22)
         obtain ⟨Ao23,co23,eo23⟩:=Kd.V_slice HO_0.out
         (subst eo23)
         refine start_ (n:=19) (S:=fun w'=>True) (ds:=[]) #[false,false,false,false,false,false,false,false,false,false,false,false,false,false,false,false,false,false,false] (by kernel_rfl) rfl rfl trivial (fun hHeld=>?_);refine with_tabW replica_Both.tab4 replica_Both.bits4 (fun HT_ HW_=>?_)
         generalize wc.drew = w21 at HO_0 HO_1 HO_6 HB hHeld ⊢
         refine pure_ (i:=0) (N:=some 26) (v:=?_) (a':=?_) (bm 1 19) rfl rfl (any_of HT_.out (by kernel_rfl)) (fun _ _ _ h=>h) (Or.inl ⟨by rfl,?_⟩) ?_ ?_
         rotate_left
         ·intro w'
          go_simp
          with_reducible rfl
         rotate_left
         ·simp only [Act.put,sA,sB,sC,i64_w,i32_w]
          rfl
         refine pure_ (i:=1) (N:=some 27) (v:=?_) (a':=?_) (bm 3 19) rfl rfl (any_of HT_.out (by kernel_rfl)) (fun _ _ _ h=>h) (Or.inl ⟨by rfl,?_⟩) ?_ ?_
         rotate_left
         ·intro w'
          go_simp
          with_reducible rfl
         rotate_left
         ·simp only [Act.put,sA,sB,sC,i64_w,i32_w]
          rfl
         refine pure_ (i:=2) (N:=some 28) (v:=?_) (a':=?_) (bm 7 19) rfl rfl (any_of HT_.out (by kernel_rfl)) (fun _ _ _ h=>h) (Or.inl ⟨by rfl,?_⟩) ?_ ?_
         rotate_left
         ·intro w'
          go_simp
          with_reducible rfl
         rotate_left
         ·simp only [Act.put,sA,sB,sC,i64_w,i32_w]
          rfl
         refine pure_ (i:=3) (N:=some 29) (v:=?_) (a':=?_) (bm 15 19) rfl rfl (any_of HT_.out (by kernel_rfl)) (fun _ _ _ h=>h) (Or.inl ⟨by rfl,?_⟩) ?_ ?_
         rotate_left
         ·intro w'
          go_simp
          with_reducible rfl
         rotate_left
         ·simp only [Act.put,sA,sB,sC,i64_w,i32_w]
          rfl
         refine pure_ (i:=4) (N:=some 30) (v:=?_) (a':=?_) (bm 31 19) rfl rfl (any_of HT_.out (by kernel_rfl)) (fun _ _ _ h=>h) (Or.inl ⟨by rfl,?_⟩) ?_ ?_
         rotate_left
         ·intro w'
          go_simp
          with_reducible rfl
         rotate_left
         ·simp only [Act.put,sA,sB,sC,i64_w,i32_w]
          rfl
         refine pure_ (i:=5) (N:=some 31) (v:=?_) (a':=?_) (bm 63 19) rfl rfl (any_of HT_.out (by kernel_rfl)) (fun _ _ _ h=>h) (Or.inl ⟨by rfl,?_⟩) ?_ ?_
         rotate_left
         ·intro w'
          go_simp
          with_reducible rfl
         rotate_left
         ·simp only [Act.put,sA,sB,sC,i64_w,i32_w]
          rfl
         refine pure_ (i:=6) (N:=some 32) (v:=?_) (a':=?_) (bm 127 19) rfl rfl (any_of HT_.out (by kernel_rfl)) (fun _ _ _ h=>h) (Or.inl ⟨by rfl,?_⟩) ?_ ?_
         rotate_left
         ·intro w'
          go_simp
          with_reducible rfl
         rotate_left
         ·simp only [Act.put,sA,sB,sC,i64_w,i32_w]
          rfl
         refine pure_ (i:=7) (N:=some 33) (v:=?_) (a':=?_) (bm 255 19) rfl rfl (any_of HT_.out (by kernel_rfl)) (fun _ _ _ h=>h) (Or.inl ⟨by rfl,?_⟩) ?_ ?_
         rotate_left
         ·intro w'
          go_simp
          with_reducible rfl
         rotate_left
         ·simp only [Act.put,sA,sB,sC,i64_w,i32_w]
          rfl
         refine pure_ (i:=8) (N:=some 34) (v:=undef) (a':=?_) (bm 511 19) rfl rfl (any_of HT_.out (by kernel_rfl)) (fun _ _ _ h=>h) (Or.inr ⟨by rfl,rfl⟩) ?_ ?_
         rotate_left
         ·simp only [Act.put,sA,sB,sC,i64_w,i32_w]
          rfl
         refine pure_ (i:=9) (N:=some 35) (v:=undef) (a':=?_) (bm 1023 19) rfl rfl (any_of HT_.out (by kernel_rfl)) (fun _ _ _ h=>h) (Or.inr ⟨by rfl,rfl⟩) ?_ ?_
         rotate_left
         ·simp only [Act.put,sA,sB,sC,i64_w,i32_w]
          rfl
         refine pure_ (i:=10) (N:=some 36) (v:=undef) (a':=?_) (bm 2047 19) rfl rfl (any_of HT_.out (by kernel_rfl)) (fun _ _ _ h=>h) (Or.inr ⟨by rfl,rfl⟩) ?_ ?_
         rotate_left
         ·simp only [Act.put,sA,sB,sC,i64_w,i32_w]
          rfl
         refine pure_ (i:=11) (N:=some 37) (v:=undef) (a':=?_) (bm 4095 19) rfl rfl (any_of HT_.out (by kernel_rfl)) (fun _ _ _ h=>h) (Or.inr ⟨by rfl,rfl⟩) ?_ ?_
         rotate_left
         ·simp only [Act.put,sA,sB,sC,i64_w,i32_w]
          rfl
         refine pure_ (i:=12) (N:=some 38) (v:=undef) (a':=?_) (bm 8191 19) rfl rfl (any_of HT_.out (by kernel_rfl)) (fun _ _ _ h=>h) (Or.inr ⟨by rfl,rfl⟩) ?_ ?_
         rotate_left
         ·simp only [Act.put,sA,sB,sC,i64_w,i32_w]
          rfl
         refine pure_ (i:=13) (N:=some 39) (v:=undef) (a':=?_) (bm 16383 19) rfl rfl (any_of HT_.out (by kernel_rfl)) (fun _ _ _ h=>h) (Or.inr ⟨by rfl,rfl⟩) ?_ ?_
         rotate_left
         ·simp only [Act.put,sA,sB,sC,i64_w,i32_w]
          rfl
         refine pure_ (i:=14) (N:=some 40) (v:=undef) (a':=?_) (bm 32767 19) rfl rfl (any_of HT_.out (by kernel_rfl)) (fun _ _ _ h=>h) (Or.inr ⟨by rfl,rfl⟩) ?_ ?_
         rotate_left
         ·simp only [Act.put,sA,sB,sC,i64_w,i32_w]
          rfl
         refine pure_ (i:=15) (N:=some 41) (v:=undef) (a':=?_) (bm 65535 19) rfl rfl (any_of HT_.out (by kernel_rfl)) (fun _ _ _ h=>h) (Or.inr ⟨by rfl,rfl⟩) ?_ ?_
         rotate_left
         ·simp only [Act.put,sA,sB,sC,i64_w,i32_w]
          rfl
         refine pure_ (i:=16) (N:=some 42) (v:=?_) (a':=?_) (bm 131071 19) rfl rfl (any_of HT_.out (by kernel_rfl)) (fun _ _ _ h=>h) (Or.inl ⟨by rfl,?_⟩) ?_ ?_
         rotate_left
         ·intro w'
          go_simp
          with_reducible rfl
         rotate_left
         ·simp only [Act.put,sA,sB,sC,i64_w,i32_w]
          rfl
         refine pure_ (i:=17) (N:=some 43) (v:=?_) (a':=?_) (bm 262143 19) rfl rfl (any_of HT_.out (by kernel_rfl)) (fun _ _ _ h=>h) (Or.inl ⟨by rfl,?_⟩) ?_ ?_
         rotate_left
         ·intro w'
          go_simp
          with_reducible rfl
         rotate_left
         ·simp only [Act.put,sA,sB,sC,i64_w,i32_w]
          rfl
         refine pure_ (i:=18) (N:=some 25) (v:=?_) (a':=?_) (bm 524287 19) rfl rfl (any_of HT_.out (by kernel_rfl)) (fun _ _ _ h=>h) (Or.inl ⟨by rfl,?_⟩) ?_ ?_
         rotate_left
         ·intro w'
          go_simp
          with_reducible rfl
         rotate_left
         ·simp only [Act.put,sA,sB,sC,i64_w,i32_w]
          rfl
         refine done_ (done_of HT_.out (by kernel_rfl)) ?_
         try go_wp2
         go_meet
         case rel=>exact ⟨_,(false),(by rfl),H',⟨by have:=HK1.out;have:=HJ2.out;omega⟩,⟨by exact HO_0.out⟩,⟨by exact HO_1.out⟩,⟨by exact HO_6.out⟩,⟨HB.out⟩⟩
      case rest =>
       clear HC9
       obtain ⟨kq,x25_8,rfl,HA,HJ8,HO_0,HO_1,HO_6,HB⟩:=hcut
       cases kq with
       | zero=>exact absurd HA.out (by simp [replica_Both.j2])
       | succ kj8 =>
        have H:=HA.out
        clear HA
        simp only [replica_Both.j2] at H
        by_cases c24:x25_8 = true
        ·subst c24
         have H1:(if 0 < (x0_1.length:Int) then (if x6_1.length < 1599289640401 then (if 1 ≤ (x0_1.length:Int) then (replica_Both.l0 kj8 (x0_1.drop 1) x1_1 (x6_1 ++ [(⟨(rd_T128 x0_1 0).f0,(rd_T128 x0_1 0).f1,(rd_T128 x0_1 0).f2,(rd_T128 x0_1 0).f3,(rd_T128 x0_1 0).f4,(rd_T128 x0_1 0).f5,(rd_T128 x0_1 0).f6,(rd_T128 x0_1 0).f7⟩:S128)])) else (none)) else (none)) else (none)) = some (r1,r2):=by rw [if_pos rfl] at H;exact H
         clear H
         have H:=H1
         clear H1
         by_cases c25:0 < (x0_1.length:Int)
         ·rw [if_pos c25] at H
          have c25b0:decide (0 < (x0_1.length:Int)) = true:=decide_eq_true c25
          have c25b1:decide (0 < x0_1.length) = true:=decide_eq_true (by omega)
          clear c25
          by_cases c26:x6_1.length < 1599289640401
          ·rw [if_pos c26] at H
           have LMc26:=Aside0.mk c26
           clear c26
           obtain ⟨y134,hy134⟩:∃ y_:List (S128),y_ = (x6_1 ++ [(⟨(rd_T128 x0_1 0).f0,(rd_T128 x0_1 0).f1,(rd_T128 x0_1 0).f2,(rd_T128 x0_1 0).f3,(rd_T128 x0_1 0).f4,(rd_T128 x0_1 0).f5,(rd_T128 x0_1 0).f6,(rd_T128 x0_1 0).f7⟩:S128)]):=⟨_,rfl⟩
           replace H:(if 1 ≤ (x0_1.length:Int) then (replica_Both.l0 kj8 (x0_1.drop 1) x1_1 y134) else (none)) = some (r1,r2):=by (rw [hy134];with_reducible exact H)
           have Ny134:=Aside0.mk hy134
           clear hy134
           by_cases c27:1 ≤ (x0_1.length:Int)
           ·rw [if_pos c27] at H
            have c27b0:=eq_true c27
            have c27b1:decide (1 ≤ (x0_1.length:Int)) = true:=decide_eq_true c27
            clear c27
            obtain ⟨y137,hy137⟩:∃ y_:List (S128),y_ = (x0_1.drop 1):=⟨_,rfl⟩
            replace H:(replica_Both.l0 kj8 y137 x1_1 y134) = some (r1,r2):=by (rw [hy137];with_reducible exact H)
            have Ny137:=Aside0.mk hy137
            clear hy137
            have H':=Aside0.mk H
            clear H
            try go_wp2
            have n0_:=Aside0.mk (Kd.V_drew HO_0.out)
            have n1_:=Aside0.mk (Kd.V_drew HO_1.out)
            have n2_:=Aside0.mk (Kd.R_drew HO_6.out)
            have n3_:=Aside0.mk (below_drew1 HB.out)
            clear HO_0
            clear HO_1
            clear HO_6
            clear HB
            have HO_0:=n0_
            have HO_1:=n1_
            have HO_6:=n2_
            have HB:=n3_
            clear n0_ n1_ n2_ n3_
            obtain ⟨Ao29,co29,eo29⟩:=Kd.V_slice HO_0.out
            (subst eo29)
            have p133:0 ≤ (0:Int):=(by omega)
            have q133:0 < (x0_1.length:Int):=of_decide_eq_true (by assumption)
            obtain ⟨ad133,e133,hx133_0,hx133_1,hx133_2,hx133_3,hx133_4,hx133_5,hx133_6,hx133_7⟩:=at_T128 (Kd.V_reads' HO_0.out).2.2 0 p133 q133
            cases e133
            have qi133:(0 < x0_1.length) = True:=eq_true (by omega)
            (try rw [show ((0:Int)).toNat = 0 from rfl] at hx133_0)
            (try rw [show 0 * 8 = 0 from rfl] at hx133_0)
            (try rw [Addr.add_zero'] at hx133_0)
            (try rw [show ((0:Int)).toNat = 0 from rfl] at hx133_1)
            (try rw [show 0 * 8 = 0 from rfl] at hx133_1)
            (try rw [Addr.add_zero'] at hx133_1)
            (try rw [show ((0:Int)).toNat = 0 from rfl] at hx133_2)
            (try rw [show 0 * 8 = 0 from rfl] at hx133_2)
            (try rw [Addr.add_zero'] at hx133_2)
            (try rw [show ((0:Int)).toNat = 0 from rfl] at hx133_3)
            (try rw [show 0 * 8 = 0 from rfl] at hx133_3)
            (try rw [Addr.add_zero'] at hx133_3)
            (try rw [show ((0:Int)).toNat = 0 from rfl] at hx133_4)
            (try rw [show 0 * 8 = 0 from rfl] at hx133_4)
            (try rw [Addr.add_zero'] at hx133_4)
            (try rw [show ((0:Int)).toNat = 0 from rfl] at hx133_5)
            (try rw [show 0 * 8 = 0 from rfl] at hx133_5)
            (try rw [Addr.add_zero'] at hx133_5)
            (try rw [show ((0:Int)).toNat = 0 from rfl] at hx133_6)
            (try rw [show 0 * 8 = 0 from rfl] at hx133_6)
            (try rw [Addr.add_zero'] at hx133_6)
            (try rw [show ((0:Int)).toNat = 0 from rfl] at hx133_7)
            (try rw [show 0 * 8 = 0 from rfl] at hx133_7)
            (try rw [Addr.add_zero'] at hx133_7)
            replace p133:=eq_true p133
            replace q133:=eq_true q133
            have q30:(1:Int) ≤ ((x0_1.length:Int):Int):=of_decide_eq_true (by assumption)
            obtain ⟨i030,hi030,_,hsz30,_⟩:=info_parts info128
            have hroom30:x0_1.length ≤ co29:=(Kd.V_reads' HO_0.out).2.1
            have hC30:Kd.F k128 _ _ (some ad133) x0_1.length x0_1:=(Kd.V_at (base:=w.heap.size) HO_0.out).2.2
            have hcut30:=cut_from (P:=Try.prog) 65 128 .i64 Try.underlying65 hi030 8 hsz30 (some ad133) x0_1.length co29 1 (by omega) q30
            have hr30:=Kd.F_cut (m:=(1:Int).toNat) (c:=co29) hC30 (by omega) hroom30
            obtain ⟨A30,hA30⟩:∃ A1,A1 = (if co29 = (1:Int).toNat then (some ad133) else ((some ad133):Option Addr).map (·.add ((1:Int).toNat * 8))):=⟨_,rfl⟩
            obtain ⟨c30,hc30⟩:∃ c1,c1 = co29 - (1:Int).toNat:=⟨_,rfl⟩
            have hy30:y137.length = x0_1.length - (1:Int).toNat:=(by rw [Ny137.out,List.length_drop] <;> omega)
            rw [show (x0_1).drop (1:Int).toNat = y137 from Ny137.out.symm] at hr30
            replace hr30:Kd.F k128 _ _ A30 y137.length y137:=(by rw [hA30];exact hr30)
            rw [← hy30,← hA30,← hc30] at hcut30
            have HO141:=Aside0.mk (show Kd.V k128 128 _ w.heap.size _ (.slice A30 y137.length c30) y137 from Kd.V_mk (by rw [hy30,hc30];exact Nat.sub_le_sub_right hroom30 _) hr30)
            have HC141:=Aside0.mk (show y137.length ≤ c30 from by rw [hy30,hc30];exact Nat.sub_le_sub_right hroom30 _)
            clear hr30 hC30 hroom30 hi030 hsz30 hc30
            have KY30:=Aside0.mk hy30
            have KA30:=Aside0.mk hA30
            clear hy30 hA30
            replace q30:=eq_true q30
            refine start_ (n:=10) (S:=fun w'=>w'.cell? ad133 = some (.int .i64 ((rd_T128 x0_1 0).f0)) ∧ w'.cell? ⟨ad133.block,ad133.off + 1,none⟩ = some (.int .i64 ((rd_T128 x0_1 0).f1)) ∧ w'.cell? ⟨ad133.block,ad133.off + 2,none⟩ = some (.int .i64 ((rd_T128 x0_1 0).f2)) ∧ w'.cell? ⟨ad133.block,ad133.off + 3,none⟩ = some (.int .i64 ((rd_T128 x0_1 0).f3)) ∧ w'.cell? ⟨ad133.block,ad133.off + 4,none⟩ = some (.int .i64 ((rd_T128 x0_1 0).f4)) ∧ w'.cell? ⟨ad133.block,ad133.off + 5,none⟩ = some (.string ((rd_T128 x0_1 0).f5)) ∧ w'.cell? ⟨ad133.block,ad133.off + 6,none⟩ = some (.string ((rd_T128 x0_1 0).f6)) ∧ w'.cell? ⟨ad133.block,ad133.off + 7,none⟩ = some (.string ((rd_T128 x0_1 0).f7))) (ds:=[4,5]) #[false,false,false,false,false,false,false,false,false,false] (by kernel_rfl) rfl rfl ⟨hx133_0,hx133_1,hx133_2,hx133_3,hx133_4,hx133_5,hx133_6,hx133_7⟩ (fun hHeld=>?_);refine with_tabW replica_Both.tab5 replica_Both.bits5 (fun HT_ HW_=>?_)
            generalize wc.drew = w28 at HO_0 HO_1 HO_6 HB HO141 hx133_0 hx133_1 hx133_2 hx133_3 hx133_4 hx133_5 hx133_6 hx133_7 hHeld ⊢
            refine pure_ (i:=0) (N:=some 44) (v:=?_) (a':=?_) (bm 1 10) rfl rfl (any_of HT_.out (by kernel_rfl)) (fun _ _ _ h=>h) (Or.inl ⟨by rfl,?_⟩) ?_ ?_
            rotate_left
            ·intro w'
             go_simp
             with_reducible rfl
            rotate_left
            ·simp only [Act.put,sA,sB,sC,i64_w,i32_w]
             rfl
            refine pure_ (i:=1) (N:=some 45) (v:=?_) (a':=?_) (bm 3 10) rfl rfl (any_of HT_.out (by kernel_rfl)) (fun _ _ _ h=>h) (Or.inl ⟨by rfl,?_⟩) ?_ ?_
            rotate_left
            ·intro w'
             go_simp
             with_reducible rfl
            rotate_left
            ·simp only [Act.put,sA,sB,sC,i64_w,i32_w]
             rfl
            refine pure_ (i:=2) (N:=some 46) (v:=?_) (a':=?_) (bm 7 10) rfl rfl (any_of HT_.out (by kernel_rfl)) (fun _ _ _ h=>h) (Or.inl ⟨by rfl,?_⟩) ?_ ?_
            rotate_left
            ·intro w'
             go_simp
             with_reducible rfl
            rotate_left
            ·simp only [Act.put,sA,sB,sC,i64_w,i32_w]
             rfl
            refine pure_ (i:=6) (N:=some 50) (v:=?_) (a':=?_) (bm 71 10) rfl rfl (any_of HT_.out (by kernel_rfl)) (fun _ _ _ h=>h) (Or.inl ⟨by rfl,?_⟩) ?_ ?_
            rotate_left
            ·intro w'
             go_simp
             with_reducible rfl
            rotate_left
            ·simp only [Act.put,sA,sB,sC,i64_w,i32_w]
             rfl
            refine pure_ (i:=7) (N:=some 51) (v:=?_) (a':=?_) (bm 199 10) rfl rfl (any_of HT_.out (by kernel_rfl)) (fun _ _ _ h=>h) (Or.inl ⟨by rfl,?_⟩) ?_ ?_
            rotate_left
            ·intro w'
             go_simp
             with_reducible rfl
            rotate_left
            ·simp only [Act.put,sA,sB,sC,i64_w,i32_w]
             rfl
            refine take_ (i:=3) (N:=some 47) (v:=?_) (a':=?_) (bm 207 10) rfl rfl (take_ofW HT_.out HW_.out (by kernel_rfl)) (fun _ _ _ h=>h) (Or.inl ⟨by rfl,?_⟩) hHeld ?_ ?_
            rotate_left
            ·rintro w' ⟨s0,s1,s2,s3,s4,s5,s6,s7⟩
             go_simp
             with_reducible rfl
            rotate_left
            ·simp only [Act.put,sA,sB,sC,i64_w,i32_w]
             rfl
            refine last_ (i:=4) (N:=some 48) (bm 223 10) rfl rfl (one_of HT_.out (by kernel_rfl)) (by decide) (fun K hK=>?_)
            refine value_ (w1:=?_) (v:=?_) (by rfl) rfl ?_ ?_
            rotate_left 2
            ·go_simp
             constructor
             ·rfl
             ·rfl
            refine hK.out _ _ ?_
            clear hK K
            refine norm_ (a':=?_) ?_ ?_
            rotate_left
            ·show Act.put _ (some 48) _ = _
             simp only [Act.put,sA,sB,sC,i64_w,i32_w]
             rfl
            refine last_ (i:=5) (N:=some 49) (bm 255 10) rfl rfl (one_of HT_.out (by kernel_rfl)) (by decide) (fun K hK=>?_)
            refine Kd.R_append_step k128 (w0:=w) w.heap.size (by rfl) (.tmp 44) (.tmp 48) 65 128 (.agg #[(.int .i64 0),(.int .i64 0),(.int .i64 0),(.int .i64 0),(.int .i64 0),(.string ⟨#[]⟩),(.string ⟨#[]⟩),(.string ⟨#[]⟩)]) 88 rfl Try.underlying65 info128 rfl (by decide) (by omega) u6 x6_1 (⟨(rd_T128 x0_1 0).f0,(rd_T128 x0_1 0).f1,(rd_T128 x0_1 0).f2,(rd_T128 x0_1 0).f3,(rd_T128 x0_1 0).f4,(rd_T128 x0_1 0).f5,(rd_T128 x0_1 0).f6,(rd_T128 x0_1 0).f7⟩:S128) [.int .i64 ((rd_T128 x0_1 0).f0),.int .i64 ((rd_T128 x0_1 0).f1),.int .i64 ((rd_T128 x0_1 0).f2),.int .i64 ((rd_T128 x0_1 0).f3),.int .i64 ((rd_T128 x0_1 0).f4),.string ((rd_T128 x0_1 0).f5),.string ((rd_T128 x0_1 0).f6),.string ((rd_T128 x0_1 0).f7)] (fun k_=>(w.heap.size ≤ k_)) (fun _=>False) rfl rfl ?aP (fun _ hk=>hk.elim) ?aF ?aO ?aB ?aS ?aL ?_
            (case aP=>exact k128_mkM _ _ _ (⟨(rd_T128 x0_1 0).f0,(rd_T128 x0_1 0).f1,(rd_T128 x0_1 0).f2,(rd_T128 x0_1 0).f3,(rd_T128 x0_1 0).f4,(rd_T128 x0_1 0).f5,(rd_T128 x0_1 0).f6,(rd_T128 x0_1 0).f7⟩:S128))
            (case aB=>exact (by with_reducible exact HB.out))
            (case aF=>exact (fun k_ hk=>(Nat.le_trans (below_size (by with_reducible exact HB.out)) hk)))
            (case aO=>exact HO_6.out)
            (case aS=>exact (below_size (by with_reducible exact HB.out)))
            (case aL=>have:=LMc26.out;omega)
            intro v135 w31 ho hb hg hat
            rw [← Ny134.out] at ho
            have n0_:=Aside0.mk (Kd.V_afterv (ok:=(fun k_=>((P0_ k_ ∨ P1_ k_) ∨ w.heap.size ≤ k_))) HO_0.out hg hat)
            have n1_:=Aside0.mk (Kd.V_afterv (ok:=(fun k_=>((P0_ k_ ∨ P1_ k_) ∨ w.heap.size ≤ k_))) HO_1.out hg hat)
            have n2_:=Aside0.mk (Kd.V_afterv (ok:=(fun k_=>((P0_ k_ ∨ P1_ k_) ∨ w.heap.size ≤ k_))) HO141.out hg hat)
            have n3_:=Aside0.mk hb
            have n4_:=Aside0.mk ho
            clear HO_0
            clear HO_1
            clear HO141
            clear HB
            clear HO_6
            have HO_0:=n0_
            have HO_1:=n1_
            have HO141:=n2_
            have HB:=n3_
            have HO136:=n4_
            clear n0_ n1_ n2_ n3_ n4_
            clear ho hb hg hat
            refine hK.out _ _ ?_
            clear hK K
            refine norm_ (a':=?_) ?_ ?_
            rotate_left
            ·show Act.put _ (some 49) _ = _
             simp only [Act.put,sA,sB,sC,i64_w,i32_w]
             rfl
            refine pure_ (i:=8) (N:=some 6) (v:=?_) (a':=?_) (bm 511 10) rfl rfl (any_of HT_.out (by kernel_rfl)) (fun _ _ _ h=>h) (Or.inl ⟨by rfl,?_⟩) ?_ ?_
            rotate_left
            ·intro w'
             go_simp
             with_reducible rfl
            rotate_left
            ·simp only [Act.put,sA,sB,sC,i64_w,i32_w]
             rfl
            refine pure_ (i:=9) (N:=some 0) (v:=?_) (a':=?_) (bm 1023 10) rfl rfl (any_of HT_.out (by kernel_rfl)) (fun _ _ _ h=>h) (Or.inl ⟨by rfl,?_⟩) ?_ ?_
            rotate_left
            ·intro w'
             go_simp
             with_reducible rfl
            rotate_left
            ·simp only [Act.put,sA,sB,sC,i64_w,i32_w]
             rfl
            refine done_ (done_of HT_.out (by kernel_rfl)) ?_
            try go_wp2
            go_roundg kj8
            case measure=>have:=HK1.out;have:=HJ2.out;have:=HJ8.out;omega
            case rel=>exact ⟨(y137),(x1_1),(y134),H',⟨by have:=HK1.out;have:=HJ2.out;have:=HJ8.out;omega⟩,⟨by exact HO141.out⟩,⟨by exact HO_1.out⟩,⟨by exact HO136.out⟩,⟨HB.out⟩⟩
           ·rw [if_neg c27] at H
            exact absurd H (by simp)
          ·rw [if_neg c26] at H
           exact absurd H (by simp)
         ·rw [if_neg c25] at H
          exact absurd H (by simp)
        ·replace c24:=Bool.eq_false_iff.mpr c24
         subst c24
         have H1:(if (x0_1.length:Int) = 0 then (replica_Both.j3 kj8 x0_1 x1_1 x6_1 true) else (if 0 < (x1_1.length:Int) then (if 0 < (x0_1.length:Int) then ((replica_stamps.f kj8 ((rd_T128 x1_1 0).f0) ((rd_T128 x1_1 0).f1) ((rd_T128 x1_1 0).f2) ((rd_T128 x1_1 0).f3) ((rd_T128 x1_1 0).f4) ((rd_T128 x1_1 0).f5) ((rd_T128 x1_1 0).f6) ((rd_T128 x1_1 0).f7) ((rd_T128 x0_1 0).f0) ((rd_T128 x0_1 0).f1) ((rd_T128 x0_1 0).f2) ((rd_T128 x0_1 0).f3) ((rd_T128 x0_1 0).f4) ((rd_T128 x0_1 0).f5) ((rd_T128 x0_1 0).f6) ((rd_T128 x0_1 0).f7)).bind fun t144=>(replica_Both.j3 kj8 x0_1 x1_1 x6_1 (decide (t144 < 0)))) else (none)) else (none))) = some (r1,r2):=by rw [if_neg (show ¬ (false = true) by decide)] at H;exact H
         clear H
         have H:=H1
         clear H1
         have HC32:=Aside0.mk H
         clear H
         go_upto_region 6 with (fail)
         go_cut [52] (fun v52 wc=>∃ (kq:Nat) (x52_31:Bool),v52 = .bool x52_31 ∧ Aside0 (replica_Both.j3 kq x0_1 x1_1 x6_1 x52_31 = some (r1,r2)) ∧ Aside0 (kq ≤ kj8) ∧ Aside0 (Kd.V k128 128 wc w.heap.size (fun k_=>((P0_ k_ ∨ P1_ k_) ∨ w.heap.size ≤ k_) ∧ some k_ ≠ (u6:Value).ownBlock) u0 x0_1) ∧ Aside0 (Kd.V k128 128 wc w.heap.size (fun k_=>((P0_ k_ ∨ P1_ k_) ∨ w.heap.size ≤ k_) ∧ some k_ ≠ (u6:Value).ownBlock) u1 x1_1) ∧ Aside0 (Kd.R k128 128 wc w.heap.size (fun k_=>(w.heap.size ≤ k_)) u6 x6_1) ∧ Aside0 (Below w.heap.size w wc))
         case first =>
          have H:=HC32.out
          clear HC32
          by_cases c33:(x0_1.length:Int) = 0
          ·rw [if_pos c33] at H
           have c33b0:((x0_1.length:Int) == 0) = true:=beq_iff_eq.mpr c33
           have c33b1:((x0_1.length:Int) != 0) = false:=bne_eq_false_iff_eq.mpr c33
           clear c33
           (skip)
           have H':=Aside0.mk H
           clear H
           try go_wp2
           have n0_:=Aside0.mk (Kd.V_drew HO_0.out)
           have n1_:=Aside0.mk (Kd.V_drew HO_1.out)
           have n2_:=Aside0.mk (Kd.R_drew HO_6.out)
           have n3_:=Aside0.mk (below_drew1 HB.out)
           clear HO_0
           clear HO_1
           clear HO_6
           clear HB
           have HO_0:=n0_
           have HO_1:=n1_
           have HO_6:=n2_
           have HB:=n3_
           clear n0_ n1_ n2_ n3_
           obtain ⟨Ao35,co35,eo35⟩:=Kd.V_slice HO_0.out
           (subst eo35)
           refine start_ (n:=14) (S:=fun w'=>True) (ds:=[]) #[false,false,false,false,false,false,false,false,false,false,false,false,false,false] (by kernel_rfl) rfl rfl trivial (fun hHeld=>?_);refine with_tabW replica_Both.tab6 replica_Both.bits6 (fun HT_ HW_=>?_)
           generalize wc.drew = w34 at HO_0 HO_1 HO_6 HB hHeld ⊢
           refine pure_ (i:=0) (N:=some 53) (v:=?_) (a':=?_) (bm 1 14) rfl rfl (any_of HT_.out (by kernel_rfl)) (fun _ _ _ h=>h) (Or.inl ⟨by rfl,?_⟩) ?_ ?_
           rotate_left
           ·intro w'
            go_simp
            with_reducible rfl
           rotate_left
           ·simp only [Act.put,sA,sB,sC,i64_w,i32_w]
            rfl
           refine pure_ (i:=1) (N:=some 54) (v:=?_) (a':=?_) (bm 3 14) rfl rfl (any_of HT_.out (by kernel_rfl)) (fun _ _ _ h=>h) (Or.inl ⟨by rfl,?_⟩) ?_ ?_
           rotate_left
           ·intro w'
            go_simp
            with_reducible rfl
           rotate_left
           ·simp only [Act.put,sA,sB,sC,i64_w,i32_w]
            rfl
           refine pure_ (i:=2) (N:=some 55) (v:=?_) (a':=?_) (bm 7 14) rfl rfl (any_of HT_.out (by kernel_rfl)) (fun _ _ _ h=>h) (Or.inl ⟨by rfl,?_⟩) ?_ ?_
           rotate_left
           ·intro w'
            go_simp
            with_reducible rfl
           rotate_left
           ·simp only [Act.put,sA,sB,sC,i64_w,i32_w]
            rfl
           refine pure_ (i:=3) (N:=some 56) (v:=?_) (a':=?_) (bm 15 14) rfl rfl (any_of HT_.out (by kernel_rfl)) (fun _ _ _ h=>h) (Or.inl ⟨by rfl,?_⟩) ?_ ?_
           rotate_left
           ·intro w'
            go_simp
            with_reducible rfl
           rotate_left
           ·simp only [Act.put,sA,sB,sC,i64_w,i32_w]
            rfl
           refine pure_ (i:=4) (N:=some 57) (v:=undef) (a':=?_) (bm 31 14) rfl rfl (any_of HT_.out (by kernel_rfl)) (fun _ _ _ h=>h) (Or.inr ⟨by rfl,rfl⟩) ?_ ?_
           rotate_left
           ·simp only [Act.put,sA,sB,sC,i64_w,i32_w]
            rfl
           refine pure_ (i:=5) (N:=some 58) (v:=undef) (a':=?_) (bm 63 14) rfl rfl (any_of HT_.out (by kernel_rfl)) (fun _ _ _ h=>h) (Or.inr ⟨by rfl,rfl⟩) ?_ ?_
           rotate_left
           ·simp only [Act.put,sA,sB,sC,i64_w,i32_w]
            rfl
           refine pure_ (i:=6) (N:=some 59) (v:=undef) (a':=?_) (bm 127 14) rfl rfl (any_of HT_.out (by kernel_rfl)) (fun _ _ _ h=>h) (Or.inr ⟨by rfl,rfl⟩) ?_ ?_
           rotate_left
           ·simp only [Act.put,sA,sB,sC,i64_w,i32_w]
            rfl
           refine pure_ (i:=7) (N:=some 60) (v:=undef) (a':=?_) (bm 255 14) rfl rfl (any_of HT_.out (by kernel_rfl)) (fun _ _ _ h=>h) (Or.inr ⟨by rfl,rfl⟩) ?_ ?_
           rotate_left
           ·simp only [Act.put,sA,sB,sC,i64_w,i32_w]
            rfl
           refine pure_ (i:=8) (N:=some 61) (v:=undef) (a':=?_) (bm 511 14) rfl rfl (any_of HT_.out (by kernel_rfl)) (fun _ _ _ h=>h) (Or.inr ⟨by rfl,rfl⟩) ?_ ?_
           rotate_left
           ·simp only [Act.put,sA,sB,sC,i64_w,i32_w]
            rfl
           refine pure_ (i:=9) (N:=some 62) (v:=undef) (a':=?_) (bm 1023 14) rfl rfl (any_of HT_.out (by kernel_rfl)) (fun _ _ _ h=>h) (Or.inr ⟨by rfl,rfl⟩) ?_ ?_
           rotate_left
           ·simp only [Act.put,sA,sB,sC,i64_w,i32_w]
            rfl
           refine pure_ (i:=10) (N:=some 63) (v:=undef) (a':=?_) (bm 2047 14) rfl rfl (any_of HT_.out (by kernel_rfl)) (fun _ _ _ h=>h) (Or.inr ⟨by rfl,rfl⟩) ?_ ?_
           rotate_left
           ·simp only [Act.put,sA,sB,sC,i64_w,i32_w]
            rfl
           refine pure_ (i:=11) (N:=some 64) (v:=undef) (a':=?_) (bm 4095 14) rfl rfl (any_of HT_.out (by kernel_rfl)) (fun _ _ _ h=>h) (Or.inr ⟨by rfl,rfl⟩) ?_ ?_
           rotate_left
           ·simp only [Act.put,sA,sB,sC,i64_w,i32_w]
            rfl
           refine pure_ (i:=12) (N:=some 65) (v:=?_) (a':=?_) (bm 8191 14) rfl rfl (any_of HT_.out (by kernel_rfl)) (fun _ _ _ h=>h) (Or.inl ⟨by rfl,?_⟩) ?_ ?_
           rotate_left
           ·intro w'
            go_simp
            with_reducible rfl
           rotate_left
           ·simp only [Act.put,sA,sB,sC,i64_w,i32_w]
            rfl
           refine pure_ (i:=13) (N:=some 52) (v:=?_) (a':=?_) (bm 16383 14) rfl rfl (any_of HT_.out (by kernel_rfl)) (fun _ _ _ h=>h) (Or.inl ⟨by rfl,?_⟩) ?_ ?_
           rotate_left
           ·intro w'
            go_simp
            with_reducible rfl
           rotate_left
           ·simp only [Act.put,sA,sB,sC,i64_w,i32_w]
            rfl
           refine done_ (done_of HT_.out (by kernel_rfl)) ?_
           try go_wp2
           go_meet
           case rel=>exact ⟨_,(true),(by rfl),H',⟨by have:=HK1.out;have:=HJ2.out;have:=HJ8.out;omega⟩,⟨by exact HO_0.out⟩,⟨by exact HO_1.out⟩,⟨by exact HO_6.out⟩,⟨HB.out⟩⟩
          ·rw [if_neg c33] at H
           have c33b0:((x0_1.length:Int) == 0) = false:=beq_eq_false_iff_ne.mpr c33
           have c33b1:((x0_1.length:Int) != 0) = true:=bne_iff_ne.mpr c33
           have c33b2:¬ (x0_1 = []):=fun h_=>c33 (by rw [h_];rfl)
           (skip)
           by_cases c36:0 < (x1_1.length:Int)
           ·rw [if_pos c36] at H
            have c36b0:decide (0 < (x1_1.length:Int)) = true:=decide_eq_true c36
            have c36b1:decide (0 < x1_1.length) = true:=decide_eq_true (by omega)
            clear c36
            by_cases c37:0 < (x0_1.length:Int)
            ·rw [if_pos c37] at H
             have c37b0:decide (0 < (x0_1.length:Int)) = true:=decide_eq_true c37
             have c37b1:decide (0 < x0_1.length) = true:=decide_eq_true (by omega)
             clear c37
             replace H:=Option.bind_eq_some_iff.mp H
             obtain ⟨t144,A380,H⟩:=H
             replace H:(replica_Both.j3 kj8 x0_1 x1_1 x6_1 (decide (t144 < 0))) = some (r1,r2):=H
             have A38:=Aside0.mk A380
             clear A380
             have H':=Aside0.mk H
             clear H
             try go_wp2
             have n0_:=Aside0.mk (Kd.V_drew HO_0.out)
             have n1_:=Aside0.mk (Kd.V_drew HO_1.out)
             have n2_:=Aside0.mk (Kd.R_drew HO_6.out)
             have n3_:=Aside0.mk (below_drew1 HB.out)
             clear HO_0
             clear HO_1
             clear HO_6
             clear HB
             have HO_0:=n0_
             have HO_1:=n1_
             have HO_6:=n2_
             have HB:=n3_
             clear n0_ n1_ n2_ n3_
             obtain ⟨Ao40,co40,eo40⟩:=Kd.V_slice HO_0.out
             (subst eo40)
             obtain ⟨Ao41,co41,eo41⟩:=Kd.V_slice HO_1.out
             (subst eo41)
             have p142:0 ≤ (0:Int):=(by omega)
             have q142:0 < (x1_1.length:Int):=of_decide_eq_true (by assumption)
             obtain ⟨ad142,e142,hx142_0,hx142_1,hx142_2,hx142_3,hx142_4,hx142_5,hx142_6,hx142_7⟩:=at_T128 (Kd.V_reads' HO_1.out).2.2 0 p142 q142
             cases e142
             have qi142:(0 < x1_1.length) = True:=eq_true (by omega)
             (try rw [show ((0:Int)).toNat = 0 from rfl] at hx142_0)
             (try rw [show 0 * 8 = 0 from rfl] at hx142_0)
             (try rw [Addr.add_zero'] at hx142_0)
             (try rw [show ((0:Int)).toNat = 0 from rfl] at hx142_1)
             (try rw [show 0 * 8 = 0 from rfl] at hx142_1)
             (try rw [Addr.add_zero'] at hx142_1)
             (try rw [show ((0:Int)).toNat = 0 from rfl] at hx142_2)
             (try rw [show 0 * 8 = 0 from rfl] at hx142_2)
             (try rw [Addr.add_zero'] at hx142_2)
             (try rw [show ((0:Int)).toNat = 0 from rfl] at hx142_3)
             (try rw [show 0 * 8 = 0 from rfl] at hx142_3)
             (try rw [Addr.add_zero'] at hx142_3)
             (try rw [show ((0:Int)).toNat = 0 from rfl] at hx142_4)
             (try rw [show 0 * 8 = 0 from rfl] at hx142_4)
             (try rw [Addr.add_zero'] at hx142_4)
             (try rw [show ((0:Int)).toNat = 0 from rfl] at hx142_5)
             (try rw [show 0 * 8 = 0 from rfl] at hx142_5)
             (try rw [Addr.add_zero'] at hx142_5)
             (try rw [show ((0:Int)).toNat = 0 from rfl] at hx142_6)
             (try rw [show 0 * 8 = 0 from rfl] at hx142_6)
             (try rw [Addr.add_zero'] at hx142_6)
             (try rw [show ((0:Int)).toNat = 0 from rfl] at hx142_7)
             (try rw [show 0 * 8 = 0 from rfl] at hx142_7)
             (try rw [Addr.add_zero'] at hx142_7)
             replace p142:=eq_true p142
             replace q142:=eq_true q142
             have p143:0 ≤ (0:Int):=(by omega)
             have q143:0 < (x0_1.length:Int):=of_decide_eq_true (by assumption)
             obtain ⟨ad143,e143,hx143_0,hx143_1,hx143_2,hx143_3,hx143_4,hx143_5,hx143_6,hx143_7⟩:=at_T128 (Kd.V_reads' HO_0.out).2.2 0 p143 q143
             cases e143
             have qi143:(0 < x0_1.length) = True:=eq_true (by omega)
             (try rw [show ((0:Int)).toNat = 0 from rfl] at hx143_0)
             (try rw [show 0 * 8 = 0 from rfl] at hx143_0)
             (try rw [Addr.add_zero'] at hx143_0)
             (try rw [show ((0:Int)).toNat = 0 from rfl] at hx143_1)
             (try rw [show 0 * 8 = 0 from rfl] at hx143_1)
             (try rw [Addr.add_zero'] at hx143_1)
             (try rw [show ((0:Int)).toNat = 0 from rfl] at hx143_2)
             (try rw [show 0 * 8 = 0 from rfl] at hx143_2)
             (try rw [Addr.add_zero'] at hx143_2)
             (try rw [show ((0:Int)).toNat = 0 from rfl] at hx143_3)
             (try rw [show 0 * 8 = 0 from rfl] at hx143_3)
             (try rw [Addr.add_zero'] at hx143_3)
             (try rw [show ((0:Int)).toNat = 0 from rfl] at hx143_4)
             (try rw [show 0 * 8 = 0 from rfl] at hx143_4)
             (try rw [Addr.add_zero'] at hx143_4)
             (try rw [show ((0:Int)).toNat = 0 from rfl] at hx143_5)
             (try rw [show 0 * 8 = 0 from rfl] at hx143_5)
             (try rw [Addr.add_zero'] at hx143_5)
             (try rw [show ((0:Int)).toNat = 0 from rfl] at hx143_6)
             (try rw [show 0 * 8 = 0 from rfl] at hx143_6)
             (try rw [Addr.add_zero'] at hx143_6)
             (try rw [show ((0:Int)).toNat = 0 from rfl] at hx143_7)
             (try rw [show 0 * 8 = 0 from rfl] at hx143_7)
             (try rw [Addr.add_zero'] at hx143_7)
             replace p143:=eq_true p143
             replace q143:=eq_true q143
             refine start_ (n:=14) (S:=fun w'=>w'.cell? ad142 = some (.int .i64 ((rd_T128 x1_1 0).f0)) ∧ w'.cell? ⟨ad142.block,ad142.off + 1,none⟩ = some (.int .i64 ((rd_T128 x1_1 0).f1)) ∧ w'.cell? ⟨ad142.block,ad142.off + 2,none⟩ = some (.int .i64 ((rd_T128 x1_1 0).f2)) ∧ w'.cell? ⟨ad142.block,ad142.off + 3,none⟩ = some (.int .i64 ((rd_T128 x1_1 0).f3)) ∧ w'.cell? ⟨ad142.block,ad142.off + 4,none⟩ = some (.int .i64 ((rd_T128 x1_1 0).f4)) ∧ w'.cell? ⟨ad142.block,ad142.off + 5,none⟩ = some (.string ((rd_T128 x1_1 0).f5)) ∧ w'.cell? ⟨ad142.block,ad142.off + 6,none⟩ = some (.string ((rd_T128 x1_1 0).f6)) ∧ w'.cell? ⟨ad142.block,ad142.off + 7,none⟩ = some (.string ((rd_T128 x1_1 0).f7)) ∧ w'.cell? ad143 = some (.int .i64 ((rd_T128 x0_1 0).f0)) ∧ w'.cell? ⟨ad143.block,ad143.off + 1,none⟩ = some (.int .i64 ((rd_T128 x0_1 0).f1)) ∧ w'.cell? ⟨ad143.block,ad143.off + 2,none⟩ = some (.int .i64 ((rd_T128 x0_1 0).f2)) ∧ w'.cell? ⟨ad143.block,ad143.off + 3,none⟩ = some (.int .i64 ((rd_T128 x0_1 0).f3)) ∧ w'.cell? ⟨ad143.block,ad143.off + 4,none⟩ = some (.int .i64 ((rd_T128 x0_1 0).f4)) ∧ w'.cell? ⟨ad143.block,ad143.off + 5,none⟩ = some (.string ((rd_T128 x0_1 0).f5)) ∧ w'.cell? ⟨ad143.block,ad143.off + 6,none⟩ = some (.string ((rd_T128 x0_1 0).f6)) ∧ w'.cell? ⟨ad143.block,ad143.off + 7,none⟩ = some (.string ((rd_T128 x0_1 0).f7))) (ds:=[]) #[false,false,false,false,false,false,false,false,false,false,false,false,false,false] (by kernel_rfl) rfl rfl ⟨hx142_0,hx142_1,hx142_2,hx142_3,hx142_4,hx142_5,hx142_6,hx142_7,hx143_0,hx143_1,hx143_2,hx143_3,hx143_4,hx143_5,hx143_6,hx143_7⟩ (fun hHeld=>?_);refine with_tabW replica_Both.tab6 replica_Both.bits6 (fun HT_ HW_=>?_)
             generalize wc.drew = w39 at HO_0 HO_1 HO_6 HB hx142_0 hx142_1 hx142_2 hx142_3 hx142_4 hx142_5 hx142_6 hx142_7 hx143_0 hx143_1 hx143_2 hx143_3 hx143_4 hx143_5 hx143_6 hx143_7 hHeld ⊢
             refine pure_ (i:=0) (N:=some 53) (v:=?_) (a':=?_) (bm 1 14) rfl rfl (any_of HT_.out (by kernel_rfl)) (fun _ _ _ h=>h) (Or.inl ⟨by rfl,?_⟩) ?_ ?_
             rotate_left
             ·intro w'
              go_simp
              with_reducible rfl
             rotate_left
             ·simp only [Act.put,sA,sB,sC,i64_w,i32_w]
              rfl
             refine pure_ (i:=1) (N:=some 54) (v:=?_) (a':=?_) (bm 3 14) rfl rfl (any_of HT_.out (by kernel_rfl)) (fun _ _ _ h=>h) (Or.inl ⟨by rfl,?_⟩) ?_ ?_
             rotate_left
             ·intro w'
              go_simp
              with_reducible rfl
             rotate_left
             ·simp only [Act.put,sA,sB,sC,i64_w,i32_w]
              rfl
             refine pure_ (i:=2) (N:=some 55) (v:=?_) (a':=?_) (bm 7 14) rfl rfl (any_of HT_.out (by kernel_rfl)) (fun _ _ _ h=>h) (Or.inl ⟨by rfl,?_⟩) ?_ ?_
             rotate_left
             ·intro w'
              go_simp
              with_reducible rfl
             rotate_left
             ·simp only [Act.put,sA,sB,sC,i64_w,i32_w]
              rfl
             refine pure_ (i:=3) (N:=some 56) (v:=?_) (a':=?_) (bm 15 14) rfl rfl (any_of HT_.out (by kernel_rfl)) (fun _ _ _ h=>h) (Or.inl ⟨by rfl,?_⟩) ?_ ?_
             rotate_left
             ·intro w'
              go_simp
              with_reducible rfl
             rotate_left
             ·simp only [Act.put,sA,sB,sC,i64_w,i32_w]
              rfl
             refine pure_ (i:=4) (N:=some 57) (v:=?_) (a':=?_) (bm 31 14) rfl rfl (any_of HT_.out (by kernel_rfl)) (fun _ _ _ h=>h) (Or.inl ⟨by rfl,?_⟩) ?_ ?_
             rotate_left
             ·intro w'
              go_simp
              with_reducible rfl
             rotate_left
             ·simp only [Act.put,sA,sB,sC,i64_w,i32_w]
              rfl
             refine pure_ (i:=5) (N:=some 58) (v:=?_) (a':=?_) (bm 63 14) rfl rfl (any_of HT_.out (by kernel_rfl)) (fun _ _ _ h=>h) (Or.inl ⟨by rfl,?_⟩) ?_ ?_
             rotate_left
             ·intro w'
              go_simp
              with_reducible rfl
             rotate_left
             ·simp only [Act.put,sA,sB,sC,i64_w,i32_w]
              rfl
             refine pure_ (i:=7) (N:=some 60) (v:=?_) (a':=?_) (bm 191 14) rfl rfl (any_of HT_.out (by kernel_rfl)) (fun _ _ _ h=>h) (Or.inl ⟨by rfl,?_⟩) ?_ ?_
             rotate_left
             ·intro w'
              go_simp
              with_reducible rfl
             rotate_left
             ·simp only [Act.put,sA,sB,sC,i64_w,i32_w]
              rfl
             refine pure_ (i:=8) (N:=some 61) (v:=?_) (a':=?_) (bm 447 14) rfl rfl (any_of HT_.out (by kernel_rfl)) (fun _ _ _ h=>h) (Or.inl ⟨by rfl,?_⟩) ?_ ?_
             rotate_left
             ·intro w'
              go_simp
              with_reducible rfl
             rotate_left
             ·simp only [Act.put,sA,sB,sC,i64_w,i32_w]
              rfl
             refine take_ (i:=6) (N:=some 59) (v:=?_) (a':=?_) (bm 511 14) rfl rfl (take_ofW HT_.out HW_.out (by kernel_rfl)) (fun _ _ _ h=>h) (Or.inl ⟨by rfl,?_⟩) hHeld ?_ ?_
             rotate_left
             ·rintro w' ⟨s0,s1,s2,s3,s4,s5,s6,s7,s8,s9,s10,s11,s12,s13,s14,s15⟩
              go_simp
              with_reducible rfl
             rotate_left
             ·simp only [Act.put,sA,sB,sC,i64_w,i32_w]
              rfl
             refine take_ (i:=9) (N:=some 62) (v:=?_) (a':=?_) (bm 1023 14) rfl rfl (take_ofW HT_.out HW_.out (by kernel_rfl)) (fun _ _ _ h=>h) (Or.inl ⟨by rfl,?_⟩) hHeld ?_ ?_
             rotate_left
             ·rintro w' ⟨s0,s1,s2,s3,s4,s5,s6,s7,s8,s9,s10,s11,s12,s13,s14,s15⟩
              go_simp
              with_reducible rfl
             rotate_left
             ·simp only [Act.put,sA,sB,sC,i64_w,i32_w]
              rfl
             refine one_ (i:=10) (N:=some 63) (bm 2047 14) rfl rfl (one_of HT_.out (by kernel_rfl)) (by decide) (fun K hK=>?_)
             refine goes_ Try.func107 (by kernel_rfl) rfl #[.agg #[.int .i64 ((rd_T128 x1_1 0).f0),.int .i64 ((rd_T128 x1_1 0).f1),.int .i64 ((rd_T128 x1_1 0).f2),.int .i64 ((rd_T128 x1_1 0).f3),.int .i64 ((rd_T128 x1_1 0).f4),.string ((rd_T128 x1_1 0).f5),.string ((rd_T128 x1_1 0).f6),.string ((rd_T128 x1_1 0).f7)],.agg #[.int .i64 ((rd_T128 x0_1 0).f0),.int .i64 ((rd_T128 x0_1 0).f1),.int .i64 ((rd_T128 x0_1 0).f2),.int .i64 ((rd_T128 x0_1 0).f3),.int .i64 ((rd_T128 x0_1 0).f4),.string ((rd_T128 x0_1 0).f5),.string ((rd_T128 x0_1 0).f6),.string ((rd_T128 x0_1 0).f7)]] (by rfl) rfl rfl (by (try simp only [List.map_toArray,List.map_cons,List.map_nil]);rfl) ?_
             with_reducible refine (replica_stamps.calls kj8 ((rd_T128 x1_1 0).f0) ((rd_T128 x1_1 0).f1) ((rd_T128 x1_1 0).f2) ((rd_T128 x1_1 0).f3) ((rd_T128 x1_1 0).f4) ((rd_T128 x1_1 0).f5) ((rd_T128 x1_1 0).f6) ((rd_T128 x1_1 0).f7) ((rd_T128 x0_1 0).f0) ((rd_T128 x0_1 0).f1) ((rd_T128 x0_1 0).f2) ((rd_T128 x0_1 0).f3) ((rd_T128 x0_1 0).f4) ((rd_T128 x0_1 0).f5) ((rd_T128 x0_1 0).f6) ((rd_T128 x0_1 0).f7) t144 _ A38.out).mono ?_
             rintro e w42 ⟨rfl,hb⟩
             have HS0_:=(hb.cell (World.block_lt_of_cell? _ _ (hHeld.1))).trans (hHeld.1)
             have HS1_:=(hb.cell (World.block_lt_of_cell? _ _ (hHeld.2.1))).trans (hHeld.2.1)
             have HS2_:=(hb.cell (World.block_lt_of_cell? _ _ (hHeld.2.2.1))).trans (hHeld.2.2.1)
             have HS3_:=(hb.cell (World.block_lt_of_cell? _ _ (hHeld.2.2.2.1))).trans (hHeld.2.2.2.1)
             have HS4_:=(hb.cell (World.block_lt_of_cell? _ _ (hHeld.2.2.2.2.1))).trans (hHeld.2.2.2.2.1)
             have HS5_:=(hb.cell (World.block_lt_of_cell? _ _ (hHeld.2.2.2.2.2.1))).trans (hHeld.2.2.2.2.2.1)
             have HS6_:=(hb.cell (World.block_lt_of_cell? _ _ (hHeld.2.2.2.2.2.2.1))).trans (hHeld.2.2.2.2.2.2.1)
             have HS7_:=(hb.cell (World.block_lt_of_cell? _ _ (hHeld.2.2.2.2.2.2.2.1))).trans (hHeld.2.2.2.2.2.2.2.1)
             have HS8_:=(hb.cell (World.block_lt_of_cell? _ _ (hHeld.2.2.2.2.2.2.2.2.1))).trans (hHeld.2.2.2.2.2.2.2.2.1)
             have HS9_:=(hb.cell (World.block_lt_of_cell? _ _ (hHeld.2.2.2.2.2.2.2.2.2.1))).trans (hHeld.2.2.2.2.2.2.2.2.2.1)
             have HS10_:=(hb.cell (World.block_lt_of_cell? _ _ (hHeld.2.2.2.2.2.2.2.2.2.2.1))).trans (hHeld.2.2.2.2.2.2.2.2.2.2.1)
             have HS11_:=(hb.cell (World.block_lt_of_cell? _ _ (hHeld.2.2.2.2.2.2.2.2.2.2.2.1))).trans (hHeld.2.2.2.2.2.2.2.2.2.2.2.1)
             have HS12_:=(hb.cell (World.block_lt_of_cell? _ _ (hHeld.2.2.2.2.2.2.2.2.2.2.2.2.1))).trans (hHeld.2.2.2.2.2.2.2.2.2.2.2.2.1)
             have HS13_:=(hb.cell (World.block_lt_of_cell? _ _ (hHeld.2.2.2.2.2.2.2.2.2.2.2.2.2.1))).trans (hHeld.2.2.2.2.2.2.2.2.2.2.2.2.2.1)
             have HS14_:=(hb.cell (World.block_lt_of_cell? _ _ (hHeld.2.2.2.2.2.2.2.2.2.2.2.2.2.2.1))).trans (hHeld.2.2.2.2.2.2.2.2.2.2.2.2.2.2.1)
             have HS15_:=(hb.cell (World.block_lt_of_cell? _ _ (hHeld.2.2.2.2.2.2.2.2.2.2.2.2.2.2.2))).trans (hHeld.2.2.2.2.2.2.2.2.2.2.2.2.2.2.2)
             refine ⟨_,rfl,?_⟩
             have n0_:=Aside0.mk (Kd.V_below HO_0.out hb)
             have n1_:=Aside0.mk (Kd.V_below HO_1.out hb)
             have n2_:=Aside0.mk (Kd.R_below HO_6.out hb)
             have n3_:=Aside0.mk (below_step (by with_reducible exact HB.out) hb)
             clear HO_0
             clear HO_1
             clear HO_6
             clear HB
             have HO_0:=n0_
             have HO_1:=n1_
             have HO_6:=n2_
             have HB:=n3_
             clear n0_ n1_ n2_ n3_
             (try clear hb)
             (try clear hb2)
             (try clear hk)
             (try clear hi)
             refine hK.out _ _ ⟨HS0_,HS1_,HS2_,HS3_,HS4_,HS5_,HS6_,HS7_,HS8_,HS9_,HS10_,HS11_,HS12_,HS13_,HS14_,HS15_⟩ (fun hHeld=>?_)
             clear hK K
             refine norm_ (a':=?_) ?_ ?_
             rotate_left
             ·show Act.put _ (some 63) _ = _
              simp only [Act.put,sA,sB,sC,i64_w,i32_w]
              rfl
             refine pure_ (i:=11) (N:=some 64) (v:=?_) (a':=?_) (bm 4095 14) rfl rfl (any_of HT_.out (by kernel_rfl)) (fun _ _ _ h=>h) (Or.inl ⟨by rfl,?_⟩) ?_ ?_
             rotate_left
             ·intro w'
              go_simp
              with_reducible rfl
             rotate_left
             ·simp only [Act.put,sA,sB,sC,i64_w,i32_w]
              rfl
             refine pure_ (i:=12) (N:=some 65) (v:=?_) (a':=?_) (bm 8191 14) rfl rfl (any_of HT_.out (by kernel_rfl)) (fun _ _ _ h=>h) (Or.inl ⟨by rfl,?_⟩) ?_ ?_
             rotate_left
             ·intro w'
              go_simp
              with_reducible rfl
             rotate_left
             ·simp only [Act.put,sA,sB,sC,i64_w,i32_w]
              rfl
             refine pure_ (i:=13) (N:=some 52) (v:=?_) (a':=?_) (bm 16383 14) rfl rfl (any_of HT_.out (by kernel_rfl)) (fun _ _ _ h=>h) (Or.inl ⟨by rfl,?_⟩) ?_ ?_
             rotate_left
             ·intro w'
              go_simp
              with_reducible rfl
             rotate_left
             ·simp only [Act.put,sA,sB,sC,i64_w,i32_w]
              rfl
             refine done_ (done_of HT_.out (by kernel_rfl)) ?_
             try go_wp2
             go_meet
             case rel=>exact ⟨_,(decide (t144 < 0)),(by rfl),H',⟨by have:=HK1.out;have:=HJ2.out;have:=HJ8.out;omega⟩,⟨by exact HO_0.out⟩,⟨by exact HO_1.out⟩,⟨by exact HO_6.out⟩,⟨HB.out⟩⟩
            ·rw [if_neg c37] at H
             exact absurd H (by simp)
           ·rw [if_neg c36] at H
            exact absurd H (by simp)
         case rest =>
          clear HC32
          obtain ⟨kq,x52_31,rfl,HA,HJ31,HO_0,HO_1,HO_6,HB⟩:=hcut
          cases kq with
          | zero=>exact absurd HA.out (by simp [replica_Both.j3])
          | succ kj31 =>
           have H:=HA.out
           clear HA
           simp only [replica_Both.j3] at H
           by_cases c43:x52_31 = true
           ·subst c43
            have H1:(if 0 < (x1_1.length:Int) then (if x6_1.length < 1599289640401 then (if 1 ≤ (x1_1.length:Int) then (replica_Both.l0 kj31 x0_1 (x1_1.drop 1) (x6_1 ++ [(⟨(rd_T128 x1_1 0).f0,(rd_T128 x1_1 0).f1,(rd_T128 x1_1 0).f2,(rd_T128 x1_1 0).f3,(rd_T128 x1_1 0).f4,(rd_T128 x1_1 0).f5,(rd_T128 x1_1 0).f6,(rd_T128 x1_1 0).f7⟩:S128)])) else (none)) else (none)) else (none)) = some (r1,r2):=by rw [if_pos rfl] at H;exact H
            clear H
            have H:=H1
            clear H1
            by_cases c44:0 < (x1_1.length:Int)
            ·rw [if_pos c44] at H
             have c44b0:decide (0 < (x1_1.length:Int)) = true:=decide_eq_true c44
             have c44b1:decide (0 < x1_1.length) = true:=decide_eq_true (by omega)
             clear c44
             by_cases c45:x6_1.length < 1599289640401
             ·rw [if_pos c45] at H
              have LMc45:=Aside0.mk c45
              clear c45
              obtain ⟨y146,hy146⟩:∃ y_:List (S128),y_ = (x6_1 ++ [(⟨(rd_T128 x1_1 0).f0,(rd_T128 x1_1 0).f1,(rd_T128 x1_1 0).f2,(rd_T128 x1_1 0).f3,(rd_T128 x1_1 0).f4,(rd_T128 x1_1 0).f5,(rd_T128 x1_1 0).f6,(rd_T128 x1_1 0).f7⟩:S128)]):=⟨_,rfl⟩
              replace H:(if 1 ≤ (x1_1.length:Int) then (replica_Both.l0 kj31 x0_1 (x1_1.drop 1) y146) else (none)) = some (r1,r2):=by (rw [hy146];with_reducible exact H)
              have Ny146:=Aside0.mk hy146
              clear hy146
              by_cases c46:1 ≤ (x1_1.length:Int)
              ·rw [if_pos c46] at H
               have c46b0:=eq_true c46
               have c46b1:decide (1 ≤ (x1_1.length:Int)) = true:=decide_eq_true c46
               clear c46
               obtain ⟨y149,hy149⟩:∃ y_:List (S128),y_ = (x1_1.drop 1):=⟨_,rfl⟩
               replace H:(replica_Both.l0 kj31 x0_1 y149 y146) = some (r1,r2):=by (rw [hy149];with_reducible exact H)
               have Ny149:=Aside0.mk hy149
               clear hy149
               have H':=Aside0.mk H
               clear H
               try go_wp2
               have n0_:=Aside0.mk (Kd.V_drew HO_0.out)
               have n1_:=Aside0.mk (Kd.V_drew HO_1.out)
               have n2_:=Aside0.mk (Kd.R_drew HO_6.out)
               have n3_:=Aside0.mk (below_drew1 HB.out)
               clear HO_0
               clear HO_1
               clear HO_6
               clear HB
               have HO_0:=n0_
               have HO_1:=n1_
               have HO_6:=n2_
               have HB:=n3_
               clear n0_ n1_ n2_ n3_
               obtain ⟨Ao48,co48,eo48⟩:=Kd.V_slice HO_1.out
               (subst eo48)
               have p145:0 ≤ (0:Int):=(by omega)
               have q145:0 < (x1_1.length:Int):=of_decide_eq_true (by assumption)
               obtain ⟨ad145,e145,hx145_0,hx145_1,hx145_2,hx145_3,hx145_4,hx145_5,hx145_6,hx145_7⟩:=at_T128 (Kd.V_reads' HO_1.out).2.2 0 p145 q145
               cases e145
               have qi145:(0 < x1_1.length) = True:=eq_true (by omega)
               (try rw [show ((0:Int)).toNat = 0 from rfl] at hx145_0)
               (try rw [show 0 * 8 = 0 from rfl] at hx145_0)
               (try rw [Addr.add_zero'] at hx145_0)
               (try rw [show ((0:Int)).toNat = 0 from rfl] at hx145_1)
               (try rw [show 0 * 8 = 0 from rfl] at hx145_1)
               (try rw [Addr.add_zero'] at hx145_1)
               (try rw [show ((0:Int)).toNat = 0 from rfl] at hx145_2)
               (try rw [show 0 * 8 = 0 from rfl] at hx145_2)
               (try rw [Addr.add_zero'] at hx145_2)
               (try rw [show ((0:Int)).toNat = 0 from rfl] at hx145_3)
               (try rw [show 0 * 8 = 0 from rfl] at hx145_3)
               (try rw [Addr.add_zero'] at hx145_3)
               (try rw [show ((0:Int)).toNat = 0 from rfl] at hx145_4)
               (try rw [show 0 * 8 = 0 from rfl] at hx145_4)
               (try rw [Addr.add_zero'] at hx145_4)
               (try rw [show ((0:Int)).toNat = 0 from rfl] at hx145_5)
               (try rw [show 0 * 8 = 0 from rfl] at hx145_5)
               (try rw [Addr.add_zero'] at hx145_5)
               (try rw [show ((0:Int)).toNat = 0 from rfl] at hx145_6)
               (try rw [show 0 * 8 = 0 from rfl] at hx145_6)
               (try rw [Addr.add_zero'] at hx145_6)
               (try rw [show ((0:Int)).toNat = 0 from rfl] at hx145_7)
               (try rw [show 0 * 8 = 0 from rfl] at hx145_7)
               (try rw [Addr.add_zero'] at hx145_7)
               replace p145:=eq_true p145
               replace q145:=eq_true q145
               have q49:(1:Int) ≤ ((x1_1.length:Int):Int):=of_decide_eq_true (by assumption)
               obtain ⟨i049,hi049,_,hsz49,_⟩:=info_parts info128
               have hroom49:x1_1.length ≤ co48:=(Kd.V_reads' HO_1.out).2.1
               have hC49:Kd.F k128 _ _ (some ad145) x1_1.length x1_1:=(Kd.V_at (base:=w.heap.size) HO_1.out).2.2
               have hcut49:=cut_from (P:=Try.prog) 65 128 .i64 Try.underlying65 hi049 8 hsz49 (some ad145) x1_1.length co48 1 (by omega) q49
               have hr49:=Kd.F_cut (m:=(1:Int).toNat) (c:=co48) hC49 (by omega) hroom49
               obtain ⟨A49,hA49⟩:∃ A1,A1 = (if co48 = (1:Int).toNat then (some ad145) else ((some ad145):Option Addr).map (·.add ((1:Int).toNat * 8))):=⟨_,rfl⟩
               obtain ⟨c49,hc49⟩:∃ c1,c1 = co48 - (1:Int).toNat:=⟨_,rfl⟩
               have hy49:y149.length = x1_1.length - (1:Int).toNat:=(by rw [Ny149.out,List.length_drop] <;> omega)
               rw [show (x1_1).drop (1:Int).toNat = y149 from Ny149.out.symm] at hr49
               replace hr49:Kd.F k128 _ _ A49 y149.length y149:=(by rw [hA49];exact hr49)
               rw [← hy49,← hA49,← hc49] at hcut49
               have HO153:=Aside0.mk (show Kd.V k128 128 _ w.heap.size _ (.slice A49 y149.length c49) y149 from Kd.V_mk (by rw [hy49,hc49];exact Nat.sub_le_sub_right hroom49 _) hr49)
               have HC153:=Aside0.mk (show y149.length ≤ c49 from by rw [hy49,hc49];exact Nat.sub_le_sub_right hroom49 _)
               clear hr49 hC49 hroom49 hi049 hsz49 hc49
               have KY49:=Aside0.mk hy49
               have KA49:=Aside0.mk hA49
               clear hy49 hA49
               replace q49:=eq_true q49
               refine start_ (n:=10) (S:=fun w'=>w'.cell? ad145 = some (.int .i64 ((rd_T128 x1_1 0).f0)) ∧ w'.cell? ⟨ad145.block,ad145.off + 1,none⟩ = some (.int .i64 ((rd_T128 x1_1 0).f1)) ∧ w'.cell? ⟨ad145.block,ad145.off + 2,none⟩ = some (.int .i64 ((rd_T128 x1_1 0).f2)) ∧ w'.cell? ⟨ad145.block,ad145.off + 3,none⟩ = some (.int .i64 ((rd_T128 x1_1 0).f3)) ∧ w'.cell? ⟨ad145.block,ad145.off + 4,none⟩ = some (.int .i64 ((rd_T128 x1_1 0).f4)) ∧ w'.cell? ⟨ad145.block,ad145.off + 5,none⟩ = some (.string ((rd_T128 x1_1 0).f5)) ∧ w'.cell? ⟨ad145.block,ad145.off + 6,none⟩ = some (.string ((rd_T128 x1_1 0).f6)) ∧ w'.cell? ⟨ad145.block,ad145.off + 7,none⟩ = some (.string ((rd_T128 x1_1 0).f7))) (ds:=[4,5]) #[false,false,false,false,false,false,false,false,false,false] (by kernel_rfl) rfl rfl ⟨hx145_0,hx145_1,hx145_2,hx145_3,hx145_4,hx145_5,hx145_6,hx145_7⟩ (fun hHeld=>?_);refine with_tabW replica_Both.tab7 replica_Both.bits7 (fun HT_ HW_=>?_)
               generalize wc.drew = w47 at HO_0 HO_1 HO_6 HB HO153 hx145_0 hx145_1 hx145_2 hx145_3 hx145_4 hx145_5 hx145_6 hx145_7 hHeld ⊢
               refine pure_ (i:=0) (N:=some 66) (v:=?_) (a':=?_) (bm 1 10) rfl rfl (any_of HT_.out (by kernel_rfl)) (fun _ _ _ h=>h) (Or.inl ⟨by rfl,?_⟩) ?_ ?_
               rotate_left
               ·intro w'
                go_simp
                with_reducible rfl
               rotate_left
               ·simp only [Act.put,sA,sB,sC,i64_w,i32_w]
                rfl
               refine pure_ (i:=1) (N:=some 67) (v:=?_) (a':=?_) (bm 3 10) rfl rfl (any_of HT_.out (by kernel_rfl)) (fun _ _ _ h=>h) (Or.inl ⟨by rfl,?_⟩) ?_ ?_
               rotate_left
               ·intro w'
                go_simp
                with_reducible rfl
               rotate_left
               ·simp only [Act.put,sA,sB,sC,i64_w,i32_w]
                rfl
               refine pure_ (i:=2) (N:=some 68) (v:=?_) (a':=?_) (bm 7 10) rfl rfl (any_of HT_.out (by kernel_rfl)) (fun _ _ _ h=>h) (Or.inl ⟨by rfl,?_⟩) ?_ ?_
               rotate_left
               ·intro w'
                go_simp
                with_reducible rfl
               rotate_left
               ·simp only [Act.put,sA,sB,sC,i64_w,i32_w]
                rfl
               refine pure_ (i:=6) (N:=some 72) (v:=?_) (a':=?_) (bm 71 10) rfl rfl (any_of HT_.out (by kernel_rfl)) (fun _ _ _ h=>h) (Or.inl ⟨by rfl,?_⟩) ?_ ?_
               rotate_left
               ·intro w'
                go_simp
                with_reducible rfl
               rotate_left
               ·simp only [Act.put,sA,sB,sC,i64_w,i32_w]
                rfl
               refine pure_ (i:=7) (N:=some 73) (v:=?_) (a':=?_) (bm 199 10) rfl rfl (any_of HT_.out (by kernel_rfl)) (fun _ _ _ h=>h) (Or.inl ⟨by rfl,?_⟩) ?_ ?_
               rotate_left
               ·intro w'
                go_simp
                with_reducible rfl
               rotate_left
               ·simp only [Act.put,sA,sB,sC,i64_w,i32_w]
                rfl
               refine take_ (i:=3) (N:=some 69) (v:=?_) (a':=?_) (bm 207 10) rfl rfl (take_ofW HT_.out HW_.out (by kernel_rfl)) (fun _ _ _ h=>h) (Or.inl ⟨by rfl,?_⟩) hHeld ?_ ?_
               rotate_left
               ·rintro w' ⟨s0,s1,s2,s3,s4,s5,s6,s7⟩
                go_simp
                with_reducible rfl
               rotate_left
               ·simp only [Act.put,sA,sB,sC,i64_w,i32_w]
                rfl
               refine last_ (i:=4) (N:=some 70) (bm 223 10) rfl rfl (one_of HT_.out (by kernel_rfl)) (by decide) (fun K hK=>?_)
               refine value_ (w1:=?_) (v:=?_) (by rfl) rfl ?_ ?_
               rotate_left 2
               ·go_simp
                constructor
                ·rfl
                ·rfl
               refine hK.out _ _ ?_
               clear hK K
               refine norm_ (a':=?_) ?_ ?_
               rotate_left
               ·show Act.put _ (some 70) _ = _
                simp only [Act.put,sA,sB,sC,i64_w,i32_w]
                rfl
               refine last_ (i:=5) (N:=some 71) (bm 255 10) rfl rfl (one_of HT_.out (by kernel_rfl)) (by decide) (fun K hK=>?_)
               refine Kd.R_append_step k128 (w0:=w) w.heap.size (by rfl) (.tmp 66) (.tmp 70) 65 128 (.agg #[(.int .i64 0),(.int .i64 0),(.int .i64 0),(.int .i64 0),(.int .i64 0),(.string ⟨#[]⟩),(.string ⟨#[]⟩),(.string ⟨#[]⟩)]) 88 rfl Try.underlying65 info128 rfl (by decide) (by omega) u6 x6_1 (⟨(rd_T128 x1_1 0).f0,(rd_T128 x1_1 0).f1,(rd_T128 x1_1 0).f2,(rd_T128 x1_1 0).f3,(rd_T128 x1_1 0).f4,(rd_T128 x1_1 0).f5,(rd_T128 x1_1 0).f6,(rd_T128 x1_1 0).f7⟩:S128) [.int .i64 ((rd_T128 x1_1 0).f0),.int .i64 ((rd_T128 x1_1 0).f1),.int .i64 ((rd_T128 x1_1 0).f2),.int .i64 ((rd_T128 x1_1 0).f3),.int .i64 ((rd_T128 x1_1 0).f4),.string ((rd_T128 x1_1 0).f5),.string ((rd_T128 x1_1 0).f6),.string ((rd_T128 x1_1 0).f7)] (fun k_=>(w.heap.size ≤ k_)) (fun _=>False) rfl rfl ?aP (fun _ hk=>hk.elim) ?aF ?aO ?aB ?aS ?aL ?_
               (case aP=>exact k128_mkM _ _ _ (⟨(rd_T128 x1_1 0).f0,(rd_T128 x1_1 0).f1,(rd_T128 x1_1 0).f2,(rd_T128 x1_1 0).f3,(rd_T128 x1_1 0).f4,(rd_T128 x1_1 0).f5,(rd_T128 x1_1 0).f6,(rd_T128 x1_1 0).f7⟩:S128))
               (case aB=>exact (by with_reducible exact HB.out))
               (case aF=>exact (fun k_ hk=>(Nat.le_trans (below_size (by with_reducible exact HB.out)) hk)))
               (case aO=>exact HO_6.out)
               (case aS=>exact (below_size (by with_reducible exact HB.out)))
               (case aL=>have:=LMc45.out;omega)
               intro v147 w50 ho hb hg hat
               rw [← Ny146.out] at ho
               have n0_:=Aside0.mk (Kd.V_afterv (ok:=(fun k_=>((P0_ k_ ∨ P1_ k_) ∨ w.heap.size ≤ k_))) HO_0.out hg hat)
               have n1_:=Aside0.mk (Kd.V_afterv (ok:=(fun k_=>((P0_ k_ ∨ P1_ k_) ∨ w.heap.size ≤ k_))) HO_1.out hg hat)
               have n2_:=Aside0.mk (Kd.V_afterv (ok:=(fun k_=>((P0_ k_ ∨ P1_ k_) ∨ w.heap.size ≤ k_))) HO153.out hg hat)
               have n3_:=Aside0.mk hb
               have n4_:=Aside0.mk ho
               clear HO_0
               clear HO_1
               clear HO153
               clear HB
               clear HO_6
               have HO_0:=n0_
               have HO_1:=n1_
               have HO153:=n2_
               have HB:=n3_
               have HO148:=n4_
               clear n0_ n1_ n2_ n3_ n4_
               clear ho hb hg hat
               refine hK.out _ _ ?_
               clear hK K
               refine norm_ (a':=?_) ?_ ?_
               rotate_left
               ·show Act.put _ (some 71) _ = _
                simp only [Act.put,sA,sB,sC,i64_w,i32_w]
                rfl
               refine pure_ (i:=8) (N:=some 6) (v:=?_) (a':=?_) (bm 511 10) rfl rfl (any_of HT_.out (by kernel_rfl)) (fun _ _ _ h=>h) (Or.inl ⟨by rfl,?_⟩) ?_ ?_
               rotate_left
               ·intro w'
                go_simp
                with_reducible rfl
               rotate_left
               ·simp only [Act.put,sA,sB,sC,i64_w,i32_w]
                rfl
               refine pure_ (i:=9) (N:=some 1) (v:=?_) (a':=?_) (bm 1023 10) rfl rfl (any_of HT_.out (by kernel_rfl)) (fun _ _ _ h=>h) (Or.inl ⟨by rfl,?_⟩) ?_ ?_
               rotate_left
               ·intro w'
                go_simp
                with_reducible rfl
               rotate_left
               ·simp only [Act.put,sA,sB,sC,i64_w,i32_w]
                rfl
               refine done_ (done_of HT_.out (by kernel_rfl)) ?_
               try go_wp2
               go_roundg kj31
               case measure=>have:=HK1.out;have:=HJ2.out;have:=HJ8.out;have:=HJ31.out;omega
               case rel=>exact ⟨(x0_1),(y149),(y146),H',⟨by have:=HK1.out;have:=HJ2.out;have:=HJ8.out;have:=HJ31.out;omega⟩,⟨by exact HO_0.out⟩,⟨by exact HO153.out⟩,⟨by exact HO148.out⟩,⟨HB.out⟩⟩
              ·rw [if_neg c46] at H
               exact absurd H (by simp)
             ·rw [if_neg c45] at H
              exact absurd H (by simp)
            ·rw [if_neg c44] at H
             exact absurd H (by simp)
           ·replace c43:=Bool.eq_false_iff.mpr c43
            subst c43
            have H1:(if 0 < (x0_1.length:Int) then (if 0 < (x1_1.length:Int) then (if (!(((rd_T128 x0_1 0).f0) == ((rd_T128 x1_1 0).f0)) || (!(((rd_T128 x0_1 0).f1) == ((rd_T128 x1_1 0).f1)) || (!(((rd_T128 x0_1 0).f2) == ((rd_T128 x1_1 0).f2)) || (!(((rd_T128 x0_1 0).f3) == ((rd_T128 x1_1 0).f3)) || (!(((rd_T128 x0_1 0).f4) == ((rd_T128 x1_1 0).f4)) || (!((((rd_T128 x0_1 0).f5).toList) == (((rd_T128 x1_1 0).f5).toList)) || (!((((rd_T128 x0_1 0).f6).toList) == (((rd_T128 x1_1 0).f6).toList)) || (!((((rd_T128 x0_1 0).f7).toList) == (((rd_T128 x1_1 0).f7).toList)))))))))) = true then (some (([]:List (S128)),6)) else (if x6_1.length < 1599289640401 then (if 1 ≤ (x0_1.length:Int) then (if 1 ≤ (x1_1.length:Int) then (replica_Both.l0 kj31 (x0_1.drop 1) (x1_1.drop 1) (x6_1 ++ [(⟨(rd_T128 x0_1 0).f0,(rd_T128 x0_1 0).f1,(rd_T128 x0_1 0).f2,(rd_T128 x0_1 0).f3,(rd_T128 x0_1 0).f4,(rd_T128 x0_1 0).f5,(rd_T128 x0_1 0).f6,(rd_T128 x0_1 0).f7⟩:S128)])) else (none)) else (none)) else (none))) else (none)) else (none)) = some (r1,r2):=by rw [if_neg (show ¬ (false = true) by decide)] at H;exact H
            clear H
            have H:=H1
            clear H1
            by_cases c51:0 < (x0_1.length:Int)
            ·rw [if_pos c51] at H
             have c51b0:decide (0 < (x0_1.length:Int)) = true:=decide_eq_true c51
             have c51b1:decide (0 < x0_1.length) = true:=decide_eq_true (by omega)
             clear c51
             by_cases c52:0 < (x1_1.length:Int)
             ·rw [if_pos c52] at H
              have c52b0:decide (0 < (x1_1.length:Int)) = true:=decide_eq_true c52
              have c52b1:decide (0 < x1_1.length) = true:=decide_eq_true (by omega)
              clear c52
              by_cases c53:(!(((rd_T128 x0_1 0).f0) == ((rd_T128 x1_1 0).f0)) || (!(((rd_T128 x0_1 0).f1) == ((rd_T128 x1_1 0).f1)) || (!(((rd_T128 x0_1 0).f2) == ((rd_T128 x1_1 0).f2)) || (!(((rd_T128 x0_1 0).f3) == ((rd_T128 x1_1 0).f3)) || (!(((rd_T128 x0_1 0).f4) == ((rd_T128 x1_1 0).f4)) || (!((((rd_T128 x0_1 0).f5).toList) == (((rd_T128 x1_1 0).f5).toList)) || (!((((rd_T128 x0_1 0).f6).toList) == (((rd_T128 x1_1 0).f6).toList)) || (!((((rd_T128 x0_1 0).f7).toList) == (((rd_T128 x1_1 0).f7).toList)))))))))) = true
              ·rw [if_pos c53] at H
               have c53b0:(!(((rd_T128 x0_1 0).f0) == ((rd_T128 x1_1 0).f0)) || (!(((rd_T128 x0_1 0).f1) == ((rd_T128 x1_1 0).f1)) || (!(((rd_T128 x0_1 0).f2) == ((rd_T128 x1_1 0).f2)) || (!(((rd_T128 x0_1 0).f3) == ((rd_T128 x1_1 0).f3)) || (!(((rd_T128 x0_1 0).f4) == ((rd_T128 x1_1 0).f4)) || (!((((rd_T128 x0_1 0).f5).toList) == (((rd_T128 x1_1 0).f5).toList)) || (!((((rd_T128 x0_1 0).f6).toList) == (((rd_T128 x1_1 0).f6).toList)) || (!((((rd_T128 x0_1 0).f7).toList) == (((rd_T128 x1_1 0).f7).toList)))))))))) = true:=c53
               clear c53
               simp only [Option.some.injEq,Prod.mk.injEq] at H
               obtain ⟨rfl,rfl⟩:=H
               try go_wp2
               have n0_:=Aside0.mk (Kd.V_drew HO_0.out)
               have n1_:=Aside0.mk (Kd.V_drew HO_1.out)
               have n2_:=Aside0.mk (Kd.R_drew HO_6.out)
               have n3_:=Aside0.mk (below_drew1 HB.out)
               clear HO_0
               clear HO_1
               clear HO_6
               clear HB
               have HO_0:=n0_
               have HO_1:=n1_
               have HO_6:=n2_
               have HB:=n3_
               clear n0_ n1_ n2_ n3_
               obtain ⟨Ao55,co55,eo55⟩:=Kd.V_slice HO_0.out
               (subst eo55)
               have p154:0 ≤ (0:Int):=(by omega)
               have q154:0 < (x0_1.length:Int):=of_decide_eq_true (by assumption)
               obtain ⟨ad154,e154,hx154_0,hx154_1,hx154_2,hx154_3,hx154_4,hx154_5,hx154_6,hx154_7⟩:=at_T128 (Kd.V_reads' HO_0.out).2.2 0 p154 q154
               cases e154
               have qi154:(0 < x0_1.length) = True:=eq_true (by omega)
               (try rw [show ((0:Int)).toNat = 0 from rfl] at hx154_0)
               (try rw [show 0 * 8 = 0 from rfl] at hx154_0)
               (try rw [Addr.add_zero'] at hx154_0)
               (try rw [show ((0:Int)).toNat = 0 from rfl] at hx154_1)
               (try rw [show 0 * 8 = 0 from rfl] at hx154_1)
               (try rw [Addr.add_zero'] at hx154_1)
               (try rw [show ((0:Int)).toNat = 0 from rfl] at hx154_2)
               (try rw [show 0 * 8 = 0 from rfl] at hx154_2)
               (try rw [Addr.add_zero'] at hx154_2)
               (try rw [show ((0:Int)).toNat = 0 from rfl] at hx154_3)
               (try rw [show 0 * 8 = 0 from rfl] at hx154_3)
               (try rw [Addr.add_zero'] at hx154_3)
               (try rw [show ((0:Int)).toNat = 0 from rfl] at hx154_4)
               (try rw [show 0 * 8 = 0 from rfl] at hx154_4)
               (try rw [Addr.add_zero'] at hx154_4)
               (try rw [show ((0:Int)).toNat = 0 from rfl] at hx154_5)
               (try rw [show 0 * 8 = 0 from rfl] at hx154_5)
               (try rw [Addr.add_zero'] at hx154_5)
               (try rw [show ((0:Int)).toNat = 0 from rfl] at hx154_6)
               (try rw [show 0 * 8 = 0 from rfl] at hx154_6)
               (try rw [Addr.add_zero'] at hx154_6)
               (try rw [show ((0:Int)).toNat = 0 from rfl] at hx154_7)
               (try rw [show 0 * 8 = 0 from rfl] at hx154_7)
               (try rw [Addr.add_zero'] at hx154_7)
               replace p154:=eq_true p154
               replace q154:=eq_true q154
               obtain ⟨Ao56,co56,eo56⟩:=Kd.V_slice HO_1.out
               (subst eo56)
               have p155:0 ≤ (0:Int):=(by omega)
               have q155:0 < (x1_1.length:Int):=of_decide_eq_true (by assumption)
               obtain ⟨ad155,e155,hx155_0,hx155_1,hx155_2,hx155_3,hx155_4,hx155_5,hx155_6,hx155_7⟩:=at_T128 (Kd.V_reads' HO_1.out).2.2 0 p155 q155
               cases e155
               have qi155:(0 < x1_1.length) = True:=eq_true (by omega)
               (try rw [show ((0:Int)).toNat = 0 from rfl] at hx155_0)
               (try rw [show 0 * 8 = 0 from rfl] at hx155_0)
               (try rw [Addr.add_zero'] at hx155_0)
               (try rw [show ((0:Int)).toNat = 0 from rfl] at hx155_1)
               (try rw [show 0 * 8 = 0 from rfl] at hx155_1)
               (try rw [Addr.add_zero'] at hx155_1)
               (try rw [show ((0:Int)).toNat = 0 from rfl] at hx155_2)
               (try rw [show 0 * 8 = 0 from rfl] at hx155_2)
               (try rw [Addr.add_zero'] at hx155_2)
               (try rw [show ((0:Int)).toNat = 0 from rfl] at hx155_3)
               (try rw [show 0 * 8 = 0 from rfl] at hx155_3)
               (try rw [Addr.add_zero'] at hx155_3)
               (try rw [show ((0:Int)).toNat = 0 from rfl] at hx155_4)
               (try rw [show 0 * 8 = 0 from rfl] at hx155_4)
               (try rw [Addr.add_zero'] at hx155_4)
               (try rw [show ((0:Int)).toNat = 0 from rfl] at hx155_5)
               (try rw [show 0 * 8 = 0 from rfl] at hx155_5)
               (try rw [Addr.add_zero'] at hx155_5)
               (try rw [show ((0:Int)).toNat = 0 from rfl] at hx155_6)
               (try rw [show 0 * 8 = 0 from rfl] at hx155_6)
               (try rw [Addr.add_zero'] at hx155_6)
               (try rw [show ((0:Int)).toNat = 0 from rfl] at hx155_7)
               (try rw [show 0 * 8 = 0 from rfl] at hx155_7)
               (try rw [Addr.add_zero'] at hx155_7)
               replace p155:=eq_true p155
               replace q155:=eq_true q155
               refine start_ (n:=8) (S:=fun w'=>w'.cell? ad154 = some (.int .i64 ((rd_T128 x0_1 0).f0)) ∧ w'.cell? ⟨ad154.block,ad154.off + 1,none⟩ = some (.int .i64 ((rd_T128 x0_1 0).f1)) ∧ w'.cell? ⟨ad154.block,ad154.off + 2,none⟩ = some (.int .i64 ((rd_T128 x0_1 0).f2)) ∧ w'.cell? ⟨ad154.block,ad154.off + 3,none⟩ = some (.int .i64 ((rd_T128 x0_1 0).f3)) ∧ w'.cell? ⟨ad154.block,ad154.off + 4,none⟩ = some (.int .i64 ((rd_T128 x0_1 0).f4)) ∧ w'.cell? ⟨ad154.block,ad154.off + 5,none⟩ = some (.string ((rd_T128 x0_1 0).f5)) ∧ w'.cell? ⟨ad154.block,ad154.off + 6,none⟩ = some (.string ((rd_T128 x0_1 0).f6)) ∧ w'.cell? ⟨ad154.block,ad154.off + 7,none⟩ = some (.string ((rd_T128 x0_1 0).f7)) ∧ w'.cell? ad155 = some (.int .i64 ((rd_T128 x1_1 0).f0)) ∧ w'.cell? ⟨ad155.block,ad155.off + 1,none⟩ = some (.int .i64 ((rd_T128 x1_1 0).f1)) ∧ w'.cell? ⟨ad155.block,ad155.off + 2,none⟩ = some (.int .i64 ((rd_T128 x1_1 0).f2)) ∧ w'.cell? ⟨ad155.block,ad155.off + 3,none⟩ = some (.int .i64 ((rd_T128 x1_1 0).f3)) ∧ w'.cell? ⟨ad155.block,ad155.off + 4,none⟩ = some (.int .i64 ((rd_T128 x1_1 0).f4)) ∧ w'.cell? ⟨ad155.block,ad155.off + 5,none⟩ = some (.string ((rd_T128 x1_1 0).f5)) ∧ w'.cell? ⟨ad155.block,ad155.off + 6,none⟩ = some (.string ((rd_T128 x1_1 0).f6)) ∧ w'.cell? ⟨ad155.block,ad155.off + 7,none⟩ = some (.string ((rd_T128 x1_1 0).f7))) (ds:=[]) #[false,false,false,false,false,false,false,false] (by kernel_rfl) rfl rfl ⟨hx154_0,hx154_1,hx154_2,hx154_3,hx154_4,hx154_5,hx154_6,hx154_7,hx155_0,hx155_1,hx155_2,hx155_3,hx155_4,hx155_5,hx155_6,hx155_7⟩ (fun hHeld=>?_);refine with_tabW replica_Both.tab8 replica_Both.bits8 (fun HT_ HW_=>?_)
               generalize wc.drew = w54 at HO_0 HO_1 HO_6 HB hx154_0 hx154_1 hx154_2 hx154_3 hx154_4 hx154_5 hx154_6 hx154_7 hx155_0 hx155_1 hx155_2 hx155_3 hx155_4 hx155_5 hx155_6 hx155_7 hHeld ⊢
               refine pure_ (i:=0) (N:=some 75) (v:=?_) (a':=?_) (bm 1 8) rfl rfl (any_of HT_.out (by kernel_rfl)) (fun _ _ _ h=>h) (Or.inl ⟨by rfl,?_⟩) ?_ ?_
               rotate_left
               ·intro w'
                go_simp
                with_reducible rfl
               rotate_left
               ·simp only [Act.put,sA,sB,sC,i64_w,i32_w]
                rfl
               refine pure_ (i:=1) (N:=some 76) (v:=?_) (a':=?_) (bm 3 8) rfl rfl (any_of HT_.out (by kernel_rfl)) (fun _ _ _ h=>h) (Or.inl ⟨by rfl,?_⟩) ?_ ?_
               rotate_left
               ·intro w'
                go_simp
                with_reducible rfl
               rotate_left
               ·simp only [Act.put,sA,sB,sC,i64_w,i32_w]
                rfl
               refine pure_ (i:=3) (N:=some 78) (v:=?_) (a':=?_) (bm 11 8) rfl rfl (any_of HT_.out (by kernel_rfl)) (fun _ _ _ h=>h) (Or.inl ⟨by rfl,?_⟩) ?_ ?_
               rotate_left
               ·intro w'
                go_simp
                with_reducible rfl
               rotate_left
               ·simp only [Act.put,sA,sB,sC,i64_w,i32_w]
                rfl
               refine pure_ (i:=4) (N:=some 79) (v:=?_) (a':=?_) (bm 27 8) rfl rfl (any_of HT_.out (by kernel_rfl)) (fun _ _ _ h=>h) (Or.inl ⟨by rfl,?_⟩) ?_ ?_
               rotate_left
               ·intro w'
                go_simp
                with_reducible rfl
               rotate_left
               ·simp only [Act.put,sA,sB,sC,i64_w,i32_w]
                rfl
               refine take_ (i:=2) (N:=some 77) (v:=?_) (a':=?_) (bm 31 8) rfl rfl (take_ofW HT_.out HW_.out (by kernel_rfl)) (fun _ _ _ h=>h) (Or.inl ⟨by rfl,?_⟩) hHeld ?_ ?_
               rotate_left
               ·rintro w' ⟨s0,s1,s2,s3,s4,s5,s6,s7,s8,s9,s10,s11,s12,s13,s14,s15⟩
                go_simp
                with_reducible rfl
               rotate_left
               ·simp only [Act.put,sA,sB,sC,i64_w,i32_w]
                rfl
               refine take_ (i:=5) (N:=some 80) (v:=?_) (a':=?_) (bm 63 8) rfl rfl (take_ofW HT_.out HW_.out (by kernel_rfl)) (fun _ _ _ h=>h) (Or.inl ⟨by rfl,?_⟩) hHeld ?_ ?_
               rotate_left
               ·rintro w' ⟨s0,s1,s2,s3,s4,s5,s6,s7,s8,s9,s10,s11,s12,s13,s14,s15⟩
                go_simp
                with_reducible rfl
               rotate_left
               ·simp only [Act.put,sA,sB,sC,i64_w,i32_w]
                rfl
               refine pure_ (i:=6) (N:=some 81) (v:=?_) (a':=?_) (bm 127 8) rfl rfl (any_of HT_.out (by kernel_rfl)) (fun _ _ _ h=>h) (Or.inl ⟨by rfl,?_⟩) ?_ ?_
               rotate_left
               ·intro w'
                go_simp
                with_reducible rfl
               rotate_left
               ·simp only [Act.put,sA,sB,sC,i64_w,i32_w]
                rfl
               refine pure_ (i:=7) (N:=some 74) (v:=?_) (a':=?_) (bm 255 8) rfl rfl (any_of HT_.out (by kernel_rfl)) (fun _ _ _ h=>h) (Or.inl ⟨by rfl,?_⟩) ?_ ?_
               rotate_left
               ·intro w'
                go_simp
                with_reducible rfl
               rotate_left
               ·simp only [Act.put,sA,sB,sC,i64_w,i32_w]
                rfl
               refine done_ (done_of HT_.out (by kernel_rfl)) ?_
               try go_wp2
               go_ret2
               exact ⟨_,by rfl,by exact Kd.R_nil _ _ _ _ _,HB.out⟩
              ·rw [if_neg c53] at H
               have c53b0:(!(((rd_T128 x0_1 0).f0) == ((rd_T128 x1_1 0).f0)) || (!(((rd_T128 x0_1 0).f1) == ((rd_T128 x1_1 0).f1)) || (!(((rd_T128 x0_1 0).f2) == ((rd_T128 x1_1 0).f2)) || (!(((rd_T128 x0_1 0).f3) == ((rd_T128 x1_1 0).f3)) || (!(((rd_T128 x0_1 0).f4) == ((rd_T128 x1_1 0).f4)) || (!((((rd_T128 x0_1 0).f5).toList) == (((rd_T128 x1_1 0).f5).toList)) || (!((((rd_T128 x0_1 0).f6).toList) == (((rd_T128 x1_1 0).f6).toList)) || (!((((rd_T128 x0_1 0).f7).toList) == (((rd_T128 x1_1 0).f7).toList)))))))))) = false:=by simpa using c53
               clear c53
               by_cases c57:x6_1.length < 1599289640401
               ·rw [if_pos c57] at H
                have LMc57:=Aside0.mk c57
                clear c57
                obtain ⟨y157,hy157⟩:∃ y_:List (S128),y_ = (x6_1 ++ [(⟨(rd_T128 x0_1 0).f0,(rd_T128 x0_1 0).f1,(rd_T128 x0_1 0).f2,(rd_T128 x0_1 0).f3,(rd_T128 x0_1 0).f4,(rd_T128 x0_1 0).f5,(rd_T128 x0_1 0).f6,(rd_T128 x0_1 0).f7⟩:S128)]):=⟨_,rfl⟩
                replace H:(if 1 ≤ (x0_1.length:Int) then (if 1 ≤ (x1_1.length:Int) then (replica_Both.l0 kj31 (x0_1.drop 1) (x1_1.drop 1) y157) else (none)) else (none)) = some (r1,r2):=by (rw [hy157];with_reducible exact H)
                have Ny157:=Aside0.mk hy157
                clear hy157
                by_cases c58:1 ≤ (x0_1.length:Int)
                ·rw [if_pos c58] at H
                 have c58b0:=eq_true c58
                 have c58b1:decide (1 ≤ (x0_1.length:Int)) = true:=decide_eq_true c58
                 clear c58
                 obtain ⟨y160,hy160⟩:∃ y_:List (S128),y_ = (x0_1.drop 1):=⟨_,rfl⟩
                 replace H:(if 1 ≤ (x1_1.length:Int) then (replica_Both.l0 kj31 y160 (x1_1.drop 1) y157) else (none)) = some (r1,r2):=by (rw [hy160];with_reducible exact H)
                 have Ny160:=Aside0.mk hy160
                 clear hy160
                 by_cases c59:1 ≤ (x1_1.length:Int)
                 ·rw [if_pos c59] at H
                  have c59b0:=eq_true c59
                  have c59b1:decide (1 ≤ (x1_1.length:Int)) = true:=decide_eq_true c59
                  clear c59
                  obtain ⟨y165,hy165⟩:∃ y_:List (S128),y_ = (x1_1.drop 1):=⟨_,rfl⟩
                  replace H:(replica_Both.l0 kj31 y160 y165 y157) = some (r1,r2):=by (rw [hy165];with_reducible exact H)
                  have Ny165:=Aside0.mk hy165
                  clear hy165
                  have H':=Aside0.mk H
                  clear H
                  try go_wp2
                  have n0_:=Aside0.mk (Kd.V_drew HO_0.out)
                  have n1_:=Aside0.mk (Kd.V_drew HO_1.out)
                  have n2_:=Aside0.mk (Kd.R_drew HO_6.out)
                  have n3_:=Aside0.mk (below_drew1 HB.out)
                  clear HO_0
                  clear HO_1
                  clear HO_6
                  clear HB
                  have HO_0:=n0_
                  have HO_1:=n1_
                  have HO_6:=n2_
                  have HB:=n3_
                  clear n0_ n1_ n2_ n3_
                  obtain ⟨Ao61,co61,eo61⟩:=Kd.V_slice HO_0.out
                  (subst eo61)
                  have p154:0 ≤ (0:Int):=(by omega)
                  have q154:0 < (x0_1.length:Int):=of_decide_eq_true (by assumption)
                  obtain ⟨ad154,e154,hx154_0,hx154_1,hx154_2,hx154_3,hx154_4,hx154_5,hx154_6,hx154_7⟩:=at_T128 (Kd.V_reads' HO_0.out).2.2 0 p154 q154
                  cases e154
                  have qi154:(0 < x0_1.length) = True:=eq_true (by omega)
                  (try rw [show ((0:Int)).toNat = 0 from rfl] at hx154_0)
                  (try rw [show 0 * 8 = 0 from rfl] at hx154_0)
                  (try rw [Addr.add_zero'] at hx154_0)
                  (try rw [show ((0:Int)).toNat = 0 from rfl] at hx154_1)
                  (try rw [show 0 * 8 = 0 from rfl] at hx154_1)
                  (try rw [Addr.add_zero'] at hx154_1)
                  (try rw [show ((0:Int)).toNat = 0 from rfl] at hx154_2)
                  (try rw [show 0 * 8 = 0 from rfl] at hx154_2)
                  (try rw [Addr.add_zero'] at hx154_2)
                  (try rw [show ((0:Int)).toNat = 0 from rfl] at hx154_3)
                  (try rw [show 0 * 8 = 0 from rfl] at hx154_3)
                  (try rw [Addr.add_zero'] at hx154_3)
                  (try rw [show ((0:Int)).toNat = 0 from rfl] at hx154_4)
                  (try rw [show 0 * 8 = 0 from rfl] at hx154_4)
                  (try rw [Addr.add_zero'] at hx154_4)
                  (try rw [show ((0:Int)).toNat = 0 from rfl] at hx154_5)
                  (try rw [show 0 * 8 = 0 from rfl] at hx154_5)
                  (try rw [Addr.add_zero'] at hx154_5)
                  (try rw [show ((0:Int)).toNat = 0 from rfl] at hx154_6)
                  (try rw [show 0 * 8 = 0 from rfl] at hx154_6)
                  (try rw [Addr.add_zero'] at hx154_6)
                  (try rw [show ((0:Int)).toNat = 0 from rfl] at hx154_7)
                  (try rw [show 0 * 8 = 0 from rfl] at hx154_7)
                  (try rw [Addr.add_zero'] at hx154_7)
                  replace p154:=eq_true p154
                  replace q154:=eq_true q154
                  obtain ⟨Ao62,co62,eo62⟩:=Kd.V_slice HO_1.out
                  (subst eo62)
                  have p155:0 ≤ (0:Int):=(by omega)
                  have q155:0 < (x1_1.length:Int):=of_decide_eq_true (by assumption)
                  obtain ⟨ad155,e155,hx155_0,hx155_1,hx155_2,hx155_3,hx155_4,hx155_5,hx155_6,hx155_7⟩:=at_T128 (Kd.V_reads' HO_1.out).2.2 0 p155 q155
                  cases e155
                  have qi155:(0 < x1_1.length) = True:=eq_true (by omega)
                  (try rw [show ((0:Int)).toNat = 0 from rfl] at hx155_0)
                  (try rw [show 0 * 8 = 0 from rfl] at hx155_0)
                  (try rw [Addr.add_zero'] at hx155_0)
                  (try rw [show ((0:Int)).toNat = 0 from rfl] at hx155_1)
                  (try rw [show 0 * 8 = 0 from rfl] at hx155_1)
                  (try rw [Addr.add_zero'] at hx155_1)
                  (try rw [show ((0:Int)).toNat = 0 from rfl] at hx155_2)
                  (try rw [show 0 * 8 = 0 from rfl] at hx155_2)
                  (try rw [Addr.add_zero'] at hx155_2)
                  (try rw [show ((0:Int)).toNat = 0 from rfl] at hx155_3)
                  (try rw [show 0 * 8 = 0 from rfl] at hx155_3)
                  (try rw [Addr.add_zero'] at hx155_3)
                  (try rw [show ((0:Int)).toNat = 0 from rfl] at hx155_4)
                  (try rw [show 0 * 8 = 0 from rfl] at hx155_4)
                  (try rw [Addr.add_zero'] at hx155_4)
                  (try rw [show ((0:Int)).toNat = 0 from rfl] at hx155_5)
                  (try rw [show 0 * 8 = 0 from rfl] at hx155_5)
                  (try rw [Addr.add_zero'] at hx155_5)
                  (try rw [show ((0:Int)).toNat = 0 from rfl] at hx155_6)
                  (try rw [show 0 * 8 = 0 from rfl] at hx155_6)
                  (try rw [Addr.add_zero'] at hx155_6)
                  (try rw [show ((0:Int)).toNat = 0 from rfl] at hx155_7)
                  (try rw [show 0 * 8 = 0 from rfl] at hx155_7)
                  (try rw [Addr.add_zero'] at hx155_7)
                  replace p155:=eq_true p155
                  replace q155:=eq_true q155
                  refine start_ (n:=8) (S:=fun w'=>w'.cell? ad154 = some (.int .i64 ((rd_T128 x0_1 0).f0)) ∧ w'.cell? ⟨ad154.block,ad154.off + 1,none⟩ = some (.int .i64 ((rd_T128 x0_1 0).f1)) ∧ w'.cell? ⟨ad154.block,ad154.off + 2,none⟩ = some (.int .i64 ((rd_T128 x0_1 0).f2)) ∧ w'.cell? ⟨ad154.block,ad154.off + 3,none⟩ = some (.int .i64 ((rd_T128 x0_1 0).f3)) ∧ w'.cell? ⟨ad154.block,ad154.off + 4,none⟩ = some (.int .i64 ((rd_T128 x0_1 0).f4)) ∧ w'.cell? ⟨ad154.block,ad154.off + 5,none⟩ = some (.string ((rd_T128 x0_1 0).f5)) ∧ w'.cell? ⟨ad154.block,ad154.off + 6,none⟩ = some (.string ((rd_T128 x0_1 0).f6)) ∧ w'.cell? ⟨ad154.block,ad154.off + 7,none⟩ = some (.string ((rd_T128 x0_1 0).f7)) ∧ w'.cell? ad155 = some (.int .i64 ((rd_T128 x1_1 0).f0)) ∧ w'.cell? ⟨ad155.block,ad155.off + 1,none⟩ = some (.int .i64 ((rd_T128 x1_1 0).f1)) ∧ w'.cell? ⟨ad155.block,ad155.off + 2,none⟩ = some (.int .i64 ((rd_T128 x1_1 0).f2)) ∧ w'.cell? ⟨ad155.block,ad155.off + 3,none⟩ = some (.int .i64 ((rd_T128 x1_1 0).f3)) ∧ w'.cell? ⟨ad155.block,ad155.off + 4,none⟩ = some (.int .i64 ((rd_T128 x1_1 0).f4)) ∧ w'.cell? ⟨ad155.block,ad155.off + 5,none⟩ = some (.string ((rd_T128 x1_1 0).f5)) ∧ w'.cell? ⟨ad155.block,ad155.off + 6,none⟩ = some (.string ((rd_T128 x1_1 0).f6)) ∧ w'.cell? ⟨ad155.block,ad155.off + 7,none⟩ = some (.string ((rd_T128 x1_1 0).f7))) (ds:=[]) #[false,false,false,false,false,false,false,false] (by kernel_rfl) rfl rfl ⟨hx154_0,hx154_1,hx154_2,hx154_3,hx154_4,hx154_5,hx154_6,hx154_7,hx155_0,hx155_1,hx155_2,hx155_3,hx155_4,hx155_5,hx155_6,hx155_7⟩ (fun hHeld=>?_);refine with_tabW replica_Both.tab8 replica_Both.bits8 (fun HT_ HW_=>?_)
                  generalize wc.drew = w60 at HO_0 HO_1 HO_6 HB hx154_0 hx154_1 hx154_2 hx154_3 hx154_4 hx154_5 hx154_6 hx154_7 hx155_0 hx155_1 hx155_2 hx155_3 hx155_4 hx155_5 hx155_6 hx155_7 hHeld ⊢
                  refine pure_ (i:=0) (N:=some 75) (v:=?_) (a':=?_) (bm 1 8) rfl rfl (any_of HT_.out (by kernel_rfl)) (fun _ _ _ h=>h) (Or.inl ⟨by rfl,?_⟩) ?_ ?_
                  rotate_left
                  ·intro w'
                   go_simp
                   with_reducible rfl
                  rotate_left
                  ·simp only [Act.put,sA,sB,sC,i64_w,i32_w]
                   rfl
                  refine pure_ (i:=1) (N:=some 76) (v:=?_) (a':=?_) (bm 3 8) rfl rfl (any_of HT_.out (by kernel_rfl)) (fun _ _ _ h=>h) (Or.inl ⟨by rfl,?_⟩) ?_ ?_
                  rotate_left
                  ·intro w'
                   go_simp
                   with_reducible rfl
                  rotate_left
                  ·simp only [Act.put,sA,sB,sC,i64_w,i32_w]
                   rfl
                  refine pure_ (i:=3) (N:=some 78) (v:=?_) (a':=?_) (bm 11 8) rfl rfl (any_of HT_.out (by kernel_rfl)) (fun _ _ _ h=>h) (Or.inl ⟨by rfl,?_⟩) ?_ ?_
                  rotate_left
                  ·intro w'
                   go_simp
                   with_reducible rfl
                  rotate_left
                  ·simp only [Act.put,sA,sB,sC,i64_w,i32_w]
                   rfl
                  refine pure_ (i:=4) (N:=some 79) (v:=?_) (a':=?_) (bm 27 8) rfl rfl (any_of HT_.out (by kernel_rfl)) (fun _ _ _ h=>h) (Or.inl ⟨by rfl,?_⟩) ?_ ?_
                  rotate_left
                  ·intro w'
                   go_simp
                   with_reducible rfl
                  rotate_left
                  ·simp only [Act.put,sA,sB,sC,i64_w,i32_w]
                   rfl
                  refine take_ (i:=2) (N:=some 77) (v:=?_) (a':=?_) (bm 31 8) rfl rfl (take_ofW HT_.out HW_.out (by kernel_rfl)) (fun _ _ _ h=>h) (Or.inl ⟨by rfl,?_⟩) hHeld ?_ ?_
                  rotate_left
                  ·rintro w' ⟨s0,s1,s2,s3,s4,s5,s6,s7,s8,s9,s10,s11,s12,s13,s14,s15⟩
                   go_simp
                   with_reducible rfl
                  rotate_left
                  ·simp only [Act.put,sA,sB,sC,i64_w,i32_w]
                   rfl
                  refine take_ (i:=5) (N:=some 80) (v:=?_) (a':=?_) (bm 63 8) rfl rfl (take_ofW HT_.out HW_.out (by kernel_rfl)) (fun _ _ _ h=>h) (Or.inl ⟨by rfl,?_⟩) hHeld ?_ ?_
                  rotate_left
                  ·rintro w' ⟨s0,s1,s2,s3,s4,s5,s6,s7,s8,s9,s10,s11,s12,s13,s14,s15⟩
                   go_simp
                   with_reducible rfl
                  rotate_left
                  ·simp only [Act.put,sA,sB,sC,i64_w,i32_w]
                   rfl
                  refine pure_ (i:=6) (N:=some 81) (v:=?_) (a':=?_) (bm 127 8) rfl rfl (any_of HT_.out (by kernel_rfl)) (fun _ _ _ h=>h) (Or.inl ⟨by rfl,?_⟩) ?_ ?_
                  rotate_left
                  ·intro w'
                   go_simp
                   with_reducible rfl
                  rotate_left
                  ·simp only [Act.put,sA,sB,sC,i64_w,i32_w]
                   rfl
                  refine pure_ (i:=7) (N:=some 74) (v:=?_) (a':=?_) (bm 255 8) rfl rfl (any_of HT_.out (by kernel_rfl)) (fun _ _ _ h=>h) (Or.inl ⟨by rfl,?_⟩) ?_ ?_
                  rotate_left
                  ·intro w'
                   go_simp
                   with_reducible rfl
                  rotate_left
                  ·simp only [Act.put,sA,sB,sC,i64_w,i32_w]
                   rfl
                  refine done_ (done_of HT_.out (by kernel_rfl)) ?_
                  try go_wp2
                  have n0_:=Aside0.mk (Kd.V_drew HO_0.out)
                  have n1_:=Aside0.mk (Kd.V_drew HO_1.out)
                  have n2_:=Aside0.mk (Kd.R_drew HO_6.out)
                  have n3_:=Aside0.mk (below_drew1 HB.out)
                  clear HO_0
                  clear HO_1
                  clear HO_6
                  clear HB
                  have HO_0:=n0_
                  have HO_1:=n1_
                  have HO_6:=n2_
                  have HB:=n3_
                  clear n0_ n1_ n2_ n3_
                  have p156:0 ≤ (0:Int):=(by omega)
                  have q156:0 < (x0_1.length:Int):=of_decide_eq_true (by assumption)
                  obtain ⟨ad156,e156,hx156_0,hx156_1,hx156_2,hx156_3,hx156_4,hx156_5,hx156_6,hx156_7⟩:=at_T128 (Kd.V_reads' HO_0.out).2.2 0 p156 q156
                  obtain rfl:ad154 = ad156:=(by injection e156)
                  have qi156:(0 < x0_1.length) = True:=eq_true (by omega)
                  (try rw [show ((0:Int)).toNat = 0 from rfl] at hx156_0)
                  (try rw [show 0 * 8 = 0 from rfl] at hx156_0)
                  (try rw [Addr.add_zero'] at hx156_0)
                  (try rw [show ((0:Int)).toNat = 0 from rfl] at hx156_1)
                  (try rw [show 0 * 8 = 0 from rfl] at hx156_1)
                  (try rw [Addr.add_zero'] at hx156_1)
                  (try rw [show ((0:Int)).toNat = 0 from rfl] at hx156_2)
                  (try rw [show 0 * 8 = 0 from rfl] at hx156_2)
                  (try rw [Addr.add_zero'] at hx156_2)
                  (try rw [show ((0:Int)).toNat = 0 from rfl] at hx156_3)
                  (try rw [show 0 * 8 = 0 from rfl] at hx156_3)
                  (try rw [Addr.add_zero'] at hx156_3)
                  (try rw [show ((0:Int)).toNat = 0 from rfl] at hx156_4)
                  (try rw [show 0 * 8 = 0 from rfl] at hx156_4)
                  (try rw [Addr.add_zero'] at hx156_4)
                  (try rw [show ((0:Int)).toNat = 0 from rfl] at hx156_5)
                  (try rw [show 0 * 8 = 0 from rfl] at hx156_5)
                  (try rw [Addr.add_zero'] at hx156_5)
                  (try rw [show ((0:Int)).toNat = 0 from rfl] at hx156_6)
                  (try rw [show 0 * 8 = 0 from rfl] at hx156_6)
                  (try rw [Addr.add_zero'] at hx156_6)
                  (try rw [show ((0:Int)).toNat = 0 from rfl] at hx156_7)
                  (try rw [show 0 * 8 = 0 from rfl] at hx156_7)
                  (try rw [Addr.add_zero'] at hx156_7)
                  replace p156:=eq_true p156
                  replace q156:=eq_true q156
                  have q64:(1:Int) ≤ ((x0_1.length:Int):Int):=of_decide_eq_true (by assumption)
                  obtain ⟨i064,hi064,_,hsz64,_⟩:=info_parts info128
                  have hroom64:x0_1.length ≤ co61:=(Kd.V_reads' HO_0.out).2.1
                  have hC64:Kd.F k128 _ _ (some ad154) x0_1.length x0_1:=(Kd.V_at (base:=w.heap.size) HO_0.out).2.2
                  have hcut64:=cut_from (P:=Try.prog) 65 128 .i64 Try.underlying65 hi064 8 hsz64 (some ad154) x0_1.length co61 1 (by omega) q64
                  have hr64:=Kd.F_cut (m:=(1:Int).toNat) (c:=co61) hC64 (by omega) hroom64
                  obtain ⟨A64,hA64⟩:∃ A1,A1 = (if co61 = (1:Int).toNat then (some ad154) else ((some ad154):Option Addr).map (·.add ((1:Int).toNat * 8))):=⟨_,rfl⟩
                  obtain ⟨c64,hc64⟩:∃ c1,c1 = co61 - (1:Int).toNat:=⟨_,rfl⟩
                  have hy64:y160.length = x0_1.length - (1:Int).toNat:=(by rw [Ny160.out,List.length_drop] <;> omega)
                  rw [show (x0_1).drop (1:Int).toNat = y160 from Ny160.out.symm] at hr64
                  replace hr64:Kd.F k128 _ _ A64 y160.length y160:=(by rw [hA64];exact hr64)
                  rw [← hy64,← hA64,← hc64] at hcut64
                  have HO164:=Aside0.mk (show Kd.V k128 128 _ w.heap.size _ (.slice A64 y160.length c64) y160 from Kd.V_mk (by rw [hy64,hc64];exact Nat.sub_le_sub_right hroom64 _) hr64)
                  have HC164:=Aside0.mk (show y160.length ≤ c64 from by rw [hy64,hc64];exact Nat.sub_le_sub_right hroom64 _)
                  clear hr64 hC64 hroom64 hi064 hsz64 hc64
                  have KY64:=Aside0.mk hy64
                  have KA64:=Aside0.mk hA64
                  clear hy64 hA64
                  replace q64:=eq_true q64
                  have q65:(1:Int) ≤ ((x1_1.length:Int):Int):=of_decide_eq_true (by assumption)
                  obtain ⟨i065,hi065,_,hsz65,_⟩:=info_parts info128
                  have hroom65:x1_1.length ≤ co62:=(Kd.V_reads' HO_1.out).2.1
                  have hC65:Kd.F k128 _ _ (some ad155) x1_1.length x1_1:=(Kd.V_at (base:=w.heap.size) HO_1.out).2.2
                  have hcut65:=cut_from (P:=Try.prog) 65 128 .i64 Try.underlying65 hi065 8 hsz65 (some ad155) x1_1.length co62 1 (by omega) q65
                  have hr65:=Kd.F_cut (m:=(1:Int).toNat) (c:=co62) hC65 (by omega) hroom65
                  obtain ⟨A65,hA65⟩:∃ A1,A1 = (if co62 = (1:Int).toNat then (some ad155) else ((some ad155):Option Addr).map (·.add ((1:Int).toNat * 8))):=⟨_,rfl⟩
                  obtain ⟨c65,hc65⟩:∃ c1,c1 = co62 - (1:Int).toNat:=⟨_,rfl⟩
                  have hy65:y165.length = x1_1.length - (1:Int).toNat:=(by rw [Ny165.out,List.length_drop] <;> omega)
                  rw [show (x1_1).drop (1:Int).toNat = y165 from Ny165.out.symm] at hr65
                  replace hr65:Kd.F k128 _ _ A65 y165.length y165:=(by rw [hA65];exact hr65)
                  rw [← hy65,← hA65,← hc65] at hcut65
                  have HO169:=Aside0.mk (show Kd.V k128 128 _ w.heap.size _ (.slice A65 y165.length c65) y165 from Kd.V_mk (by rw [hy65,hc65];exact Nat.sub_le_sub_right hroom65 _) hr65)
                  have HC169:=Aside0.mk (show y165.length ≤ c65 from by rw [hy65,hc65];exact Nat.sub_le_sub_right hroom65 _)
                  clear hr65 hC65 hroom65 hi065 hsz65 hc65
                  have KY65:=Aside0.mk hy65
                  have KA65:=Aside0.mk hA65
                  clear hy65 hA65
                  replace q65:=eq_true q65
                  refine start_ (n:=13) (S:=fun w'=>w'.cell? ad154 = some (.int .i64 ((rd_T128 x0_1 0).f0)) ∧ w'.cell? ⟨ad154.block,ad154.off + 1,none⟩ = some (.int .i64 ((rd_T128 x0_1 0).f1)) ∧ w'.cell? ⟨ad154.block,ad154.off + 2,none⟩ = some (.int .i64 ((rd_T128 x0_1 0).f2)) ∧ w'.cell? ⟨ad154.block,ad154.off + 3,none⟩ = some (.int .i64 ((rd_T128 x0_1 0).f3)) ∧ w'.cell? ⟨ad154.block,ad154.off + 4,none⟩ = some (.int .i64 ((rd_T128 x0_1 0).f4)) ∧ w'.cell? ⟨ad154.block,ad154.off + 5,none⟩ = some (.string ((rd_T128 x0_1 0).f5)) ∧ w'.cell? ⟨ad154.block,ad154.off + 6,none⟩ = some (.string ((rd_T128 x0_1 0).f6)) ∧ w'.cell? ⟨ad154.block,ad154.off + 7,none⟩ = some (.string ((rd_T128 x0_1 0).f7))) (ds:=[4,5]) #[false,false,false,false,false,false,false,false,false,false,false,false,false] (by kernel_rfl) rfl rfl ⟨hx156_0,hx156_1,hx156_2,hx156_3,hx156_4,hx156_5,hx156_6,hx156_7⟩ (fun hHeld=>?_);refine with_tabW replica_Both.tab3 replica_Both.bits3 (fun HT_ HW_=>?_)
                  generalize w60.drew = w63 at HO_0 HO_1 HO_6 HB HO164 HO169 hx156_0 hx156_1 hx156_2 hx156_3 hx156_4 hx156_5 hx156_6 hx156_7 hHeld ⊢
                  refine pure_ (i:=0) (N:=some 15) (v:=?_) (a':=?_) (bm 1 13) rfl rfl (any_of HT_.out (by kernel_rfl)) (fun _ _ _ h=>h) (Or.inl ⟨by rfl,?_⟩) ?_ ?_
                  rotate_left
                  ·intro w'
                   go_simp
                   with_reducible rfl
                  rotate_left
                  ·simp only [Act.put,sA,sB,sC,i64_w,i32_w]
                   rfl
                  refine pure_ (i:=1) (N:=some 16) (v:=?_) (a':=?_) (bm 3 13) rfl rfl (any_of HT_.out (by kernel_rfl)) (fun _ _ _ h=>h) (Or.inl ⟨by rfl,?_⟩) ?_ ?_
                  rotate_left
                  ·intro w'
                   go_simp
                   with_reducible rfl
                  rotate_left
                  ·simp only [Act.put,sA,sB,sC,i64_w,i32_w]
                   rfl
                  refine pure_ (i:=2) (N:=some 17) (v:=?_) (a':=?_) (bm 7 13) rfl rfl (any_of HT_.out (by kernel_rfl)) (fun _ _ _ h=>h) (Or.inl ⟨by rfl,?_⟩) ?_ ?_
                  rotate_left
                  ·intro w'
                   go_simp
                   with_reducible rfl
                  rotate_left
                  ·simp only [Act.put,sA,sB,sC,i64_w,i32_w]
                   rfl
                  refine pure_ (i:=6) (N:=some 21) (v:=?_) (a':=?_) (bm 71 13) rfl rfl (any_of HT_.out (by kernel_rfl)) (fun _ _ _ h=>h) (Or.inl ⟨by rfl,?_⟩) ?_ ?_
                  rotate_left
                  ·intro w'
                   go_simp
                   with_reducible rfl
                  rotate_left
                  ·simp only [Act.put,sA,sB,sC,i64_w,i32_w]
                   rfl
                  refine pure_ (i:=7) (N:=some 22) (v:=?_) (a':=?_) (bm 199 13) rfl rfl (any_of HT_.out (by kernel_rfl)) (fun _ _ _ h=>h) (Or.inl ⟨by rfl,?_⟩) ?_ ?_
                  rotate_left
                  ·intro w'
                   go_simp
                   with_reducible rfl
                  rotate_left
                  ·simp only [Act.put,sA,sB,sC,i64_w,i32_w]
                   rfl
                  refine pure_ (i:=8) (N:=some 23) (v:=?_) (a':=?_) (bm 455 13) rfl rfl (any_of HT_.out (by kernel_rfl)) (fun _ _ _ h=>h) (Or.inl ⟨by rfl,?_⟩) ?_ ?_
                  rotate_left
                  ·intro w'
                   go_simp
                   with_reducible rfl
                  rotate_left
                  ·simp only [Act.put,sA,sB,sC,i64_w,i32_w]
                   rfl
                  refine pure_ (i:=9) (N:=some 24) (v:=?_) (a':=?_) (bm 967 13) rfl rfl (any_of HT_.out (by kernel_rfl)) (fun _ _ _ h=>h) (Or.inl ⟨by rfl,?_⟩) ?_ ?_
                  rotate_left
                  ·intro w'
                   go_simp
                   with_reducible rfl
                  rotate_left
                  ·simp only [Act.put,sA,sB,sC,i64_w,i32_w]
                   rfl
                  refine take_ (i:=3) (N:=some 18) (v:=?_) (a':=?_) (bm 975 13) rfl rfl (take_ofW HT_.out HW_.out (by kernel_rfl)) (fun _ _ _ h=>h) (Or.inl ⟨by rfl,?_⟩) hHeld ?_ ?_
                  rotate_left
                  ·rintro w' ⟨s0,s1,s2,s3,s4,s5,s6,s7⟩
                   go_simp
                   with_reducible rfl
                  rotate_left
                  ·simp only [Act.put,sA,sB,sC,i64_w,i32_w]
                   rfl
                  refine last_ (i:=4) (N:=some 19) (bm 991 13) rfl rfl (one_of HT_.out (by kernel_rfl)) (by decide) (fun K hK=>?_)
                  refine value_ (w1:=?_) (v:=?_) (by rfl) rfl ?_ ?_
                  rotate_left 2
                  ·go_simp
                   constructor
                   ·rfl
                   ·rfl
                  refine hK.out _ _ ?_
                  clear hK K
                  refine norm_ (a':=?_) ?_ ?_
                  rotate_left
                  ·show Act.put _ (some 19) _ = _
                   simp only [Act.put,sA,sB,sC,i64_w,i32_w]
                   rfl
                  refine last_ (i:=5) (N:=some 20) (bm 1023 13) rfl rfl (one_of HT_.out (by kernel_rfl)) (by decide) (fun K hK=>?_)
                  refine Kd.R_append_step k128 (w0:=w) w.heap.size (by rfl) (.tmp 15) (.tmp 19) 65 128 (.agg #[(.int .i64 0),(.int .i64 0),(.int .i64 0),(.int .i64 0),(.int .i64 0),(.string ⟨#[]⟩),(.string ⟨#[]⟩),(.string ⟨#[]⟩)]) 88 rfl Try.underlying65 info128 rfl (by decide) (by omega) u6 x6_1 (⟨(rd_T128 x0_1 0).f0,(rd_T128 x0_1 0).f1,(rd_T128 x0_1 0).f2,(rd_T128 x0_1 0).f3,(rd_T128 x0_1 0).f4,(rd_T128 x0_1 0).f5,(rd_T128 x0_1 0).f6,(rd_T128 x0_1 0).f7⟩:S128) [.int .i64 ((rd_T128 x0_1 0).f0),.int .i64 ((rd_T128 x0_1 0).f1),.int .i64 ((rd_T128 x0_1 0).f2),.int .i64 ((rd_T128 x0_1 0).f3),.int .i64 ((rd_T128 x0_1 0).f4),.string ((rd_T128 x0_1 0).f5),.string ((rd_T128 x0_1 0).f6),.string ((rd_T128 x0_1 0).f7)] (fun k_=>(w.heap.size ≤ k_)) (fun _=>False) rfl rfl ?aP (fun _ hk=>hk.elim) ?aF ?aO ?aB ?aS ?aL ?_
                  (case aP=>exact k128_mkM _ _ _ (⟨(rd_T128 x0_1 0).f0,(rd_T128 x0_1 0).f1,(rd_T128 x0_1 0).f2,(rd_T128 x0_1 0).f3,(rd_T128 x0_1 0).f4,(rd_T128 x0_1 0).f5,(rd_T128 x0_1 0).f6,(rd_T128 x0_1 0).f7⟩:S128))
                  (case aB=>exact (by with_reducible exact HB.out))
                  (case aF=>exact (fun k_ hk=>(Nat.le_trans (below_size (by with_reducible exact HB.out)) hk)))
                  (case aO=>exact HO_6.out)
                  (case aS=>exact (below_size (by with_reducible exact HB.out)))
                  (case aL=>have:=LMc57.out;omega)
                  intro v158 w66 ho hb hg hat
                  rw [← Ny157.out] at ho
                  have n0_:=Aside0.mk (Kd.V_afterv (ok:=(fun k_=>((P0_ k_ ∨ P1_ k_) ∨ w.heap.size ≤ k_))) HO_0.out hg hat)
                  have n1_:=Aside0.mk (Kd.V_afterv (ok:=(fun k_=>((P0_ k_ ∨ P1_ k_) ∨ w.heap.size ≤ k_))) HO_1.out hg hat)
                  have n2_:=Aside0.mk (Kd.V_afterv (ok:=(fun k_=>((P0_ k_ ∨ P1_ k_) ∨ w.heap.size ≤ k_))) HO164.out hg hat)
                  have n3_:=Aside0.mk (Kd.V_afterv (ok:=(fun k_=>((P0_ k_ ∨ P1_ k_) ∨ w.heap.size ≤ k_))) HO169.out hg hat)
                  have n4_:=Aside0.mk hb
                  have n5_:=Aside0.mk ho
                  clear HO_0
                  clear HO_1
                  clear HO164
                  clear HO169
                  clear HB
                  clear HO_6
                  have HO_0:=n0_
                  have HO_1:=n1_
                  have HO164:=n2_
                  have HO169:=n3_
                  have HB:=n4_
                  have HO159:=n5_
                  clear n0_ n1_ n2_ n3_ n4_ n5_
                  clear ho hb hg hat
                  refine hK.out _ _ ?_
                  clear hK K
                  refine norm_ (a':=?_) ?_ ?_
                  rotate_left
                  ·show Act.put _ (some 20) _ = _
                   simp only [Act.put,sA,sB,sC,i64_w,i32_w]
                   rfl
                  refine pure_ (i:=10) (N:=some 6) (v:=?_) (a':=?_) (bm 2047 13) rfl rfl (any_of HT_.out (by kernel_rfl)) (fun _ _ _ h=>h) (Or.inl ⟨by rfl,?_⟩) ?_ ?_
                  rotate_left
                  ·intro w'
                   go_simp
                   with_reducible rfl
                  rotate_left
                  ·simp only [Act.put,sA,sB,sC,i64_w,i32_w]
                   rfl
                  refine pure_ (i:=11) (N:=some 0) (v:=?_) (a':=?_) (bm 4095 13) rfl rfl (any_of HT_.out (by kernel_rfl)) (fun _ _ _ h=>h) (Or.inl ⟨by rfl,?_⟩) ?_ ?_
                  rotate_left
                  ·intro w'
                   go_simp
                   with_reducible rfl
                  rotate_left
                  ·simp only [Act.put,sA,sB,sC,i64_w,i32_w]
                   rfl
                  refine pure_ (i:=12) (N:=some 1) (v:=?_) (a':=?_) (bm 8191 13) rfl rfl (any_of HT_.out (by kernel_rfl)) (fun _ _ _ h=>h) (Or.inl ⟨by rfl,?_⟩) ?_ ?_
                  rotate_left
                  ·intro w'
                   go_simp
                   with_reducible rfl
                  rotate_left
                  ·simp only [Act.put,sA,sB,sC,i64_w,i32_w]
                   rfl
                  refine done_ (done_of HT_.out (by kernel_rfl)) ?_
                  try go_wp2
                  go_roundg kj31
                  case measure=>have:=HK1.out;have:=HJ2.out;have:=HJ8.out;have:=HJ31.out;omega
                  case rel=>exact ⟨(y160),(y165),(y157),H',⟨by have:=HK1.out;have:=HJ2.out;have:=HJ8.out;have:=HJ31.out;omega⟩,⟨by exact HO164.out⟩,⟨by exact HO169.out⟩,⟨by exact HO159.out⟩,⟨HB.out⟩⟩
                 ·rw [if_neg c59] at H
                  exact absurd H (by simp)
                ·rw [if_neg c58] at H
                 exact absurd H (by simp)
               ·rw [if_neg c57] at H
                exact absurd H (by simp)
             ·rw [if_neg c52] at H
              exact absurd H (by simp)
            ·rw [if_neg c51] at H
             exact absurd H (by simp)
     ·replace c8:=Bool.eq_false_iff.mpr c8
      subst c8
      have H1:(some (x6_1,0)) = some (r1,r2):=by rw [if_neg (show ¬ (false = true) by decide)] at H;exact H
      clear H
      have H:=H1
      clear H1
      simp only [Option.some.injEq,Prod.mk.injEq] at H
      obtain ⟨rfl,rfl⟩:=H
      go_wp2
      go_ret2
      exact ⟨_,by rfl,by exact HO_6.out,HB.out⟩
end
end Go.Proofs.Ytlcodfjlbhjkbaa.PDelta
end
section
namespace Go.Proofs.Ytlcodfjlbhjkbaa.PDelta
open Go.RowKit Go.Proofs.YtlcodfjlbhjkbaaW.PrintWords Go.Proofs.YtlcodfjlbhjkbaaW.PrintLast Go.Proofs.YtlcodfjlbhjkbaaW.PrintMore
attribute [local go_sem] max2_int min2_int max_two min_two max_three min_three max_four min_four
attribute [local go_sem high] Go.Proofs.Ytlcodfjlbhjkbaa.Ord.leq_str Go.Proofs.Ytlcodfjlbhjkbaa.Ord.gtr_str Go.Proofs.Ytlcodfjlbhjkbaa.Ord.geq_str
noncomputable section
attribute [local go_sem high] eqA91 eqA128
def replica_Join.f (k:Nat) (l0:List (S128)) (l1:List (S128)):Option ((List (S128)) × Int):=(replica_Check.f k l0).bind fun t170=>(if t170 = 0 then ((replica_Check.f k l1).bind fun t171=>(if t171 = 0 then ((replica_Both.f k l0 l1).bind fun bt172=>(some (bt172.1,bt172.2))) else (some (([]:List (S128)),t171)))) else (some (([]:List (S128)),t170)))
set_option maxHeartbeats 8000000 in
set_option maxRecDepth 100000 in
theorem replica_Join.calls (k:Nat) (A0:Option Addr) (c0:Nat) (l0:List (S128)) (A1:Option Addr) (c1:Nat) (l1:List (S128)) (r1:List (S128)) (r2:Int) (w:World) (hr0:Kd.C k128 w A0 l0.length l0) (hc0:l0.length ≤ c0) (hr1:Kd.C k128 w A1 l1.length l1) (hc1:l1.length ≤ c1) (h:replica_Join.f k l0 l1 = some (r1,r2)) :
 Calls Try.prog 36 #[.slice A0 l0.length c0,.slice A1 l1.length c1] w fun e w'=>∃ v0_:Value,e = .returned (.tuple #[v0_,.int .i64 r2]) ∧ Kd.R k128 128 w' w.heap.size (fun _=>True) v0_ r1 ∧ Below w.heap.size w w':=by
 have HR0:=Aside0.mk hr0
 have HC0:=Aside0.mk hc0
 clear hr0 hc0
 have HR1:=Aside0.mk hr1
 have HC1:=Aside0.mk hc1
 clear hr1 hc1
 have HB:=Aside0.mk (Below.refl w.heap.size w)
 have H:((replica_Check.f k l0).bind fun t170=>(if t170 = 0 then ((replica_Check.f k l1).bind fun t171=>(if t171 = 0 then ((replica_Both.f k l0 l1).bind fun bt172=>(some (bt172.1,bt172.2))) else (some (([]:List (S128)),t171)))) else (some (([]:List (S128)),t170)))) = some (r1,r2):=h
 clear h
 replace H:=Option.bind_eq_some_iff.mp H
 obtain ⟨t170,A30,H⟩:=H
 replace H:(if t170 = 0 then ((replica_Check.f k l1).bind fun t171=>(if t171 = 0 then ((replica_Both.f k l0 l1).bind fun bt172=>(some (bt172.1,bt172.2))) else (some (([]:List (S128)),t171)))) else (some (([]:List (S128)),t170))) = some (r1,r2):=H
 have A3:=Aside0.mk A30
 clear A30
 by_cases c4:t170 = 0
 ·rw [if_pos c4] at H
  have c4b0:(t170 == 0) = true:=beq_iff_eq.mpr c4
  have c4b1:(t170 != 0) = false:=bne_eq_false_iff_eq.mpr c4
  clear c4
  replace H:=Option.bind_eq_some_iff.mp H
  obtain ⟨t171,A50,H⟩:=H
  replace H:(if t171 = 0 then ((replica_Both.f k l0 l1).bind fun bt172=>(some (bt172.1,bt172.2))) else (some (([]:List (S128)),t171))) = some (r1,r2):=H
  have A5:=Aside0.mk A50
  clear A50
  by_cases c6:t171 = 0
  ·rw [if_pos c6] at H
   have c6b0:(t171 == 0) = true:=beq_iff_eq.mpr c6
   have c6b1:(t171 != 0) = false:=bne_eq_false_iff_eq.mpr c6
   clear c6
   replace H:=Option.bind_eq_some_iff.mp H
   obtain ⟨⟨t172,t175⟩,A70,H⟩:=H
   replace H:(some (t172,t175)) = some (r1,r2):=H
   have A7:=Aside0.mk A70
   clear A70
   simp only [Option.some.injEq,Prod.mk.injEq] at H
   obtain ⟨rfl,rfl⟩:=H
   go_enter Try.func36,Try.ntmps36
   go_wp2_with (first | ((with_reducible refine gate_callee (f:=72) rfl ?_);refine goesL_ (some 9) rfl rfl Try.func72 (by kernel_rfl) rfl #[.slice A0 l0.length c0] rfl (by (try simp only [List.map_toArray,List.map_cons,List.map_nil]);rfl) ?_;(with_reducible refine (replica_Check.calls k _ _ l0 t170 _ ?side1 ?side2 A3.out).mono ?_);(case side1=>repeat (exact HR0.out));(case side2=>exact HC0.out);rintro e w8 ⟨rfl,hb⟩;refine ⟨_,rfl,?_⟩;replace HB:=Aside0.mk (below_step (by with_reducible exact HB.out) hb);(try clear hb);(try clear hb2);(try clear hk);(try clear hi)) | ((with_reducible refine gate_callee (f:=72) rfl ?_);refine goesL_ (some 14) rfl rfl Try.func72 (by kernel_rfl) rfl #[.slice A1 l1.length c1] rfl (by (try simp only [List.map_toArray,List.map_cons,List.map_nil]);rfl) ?_;(with_reducible refine (replica_Check.calls k _ _ l1 t171 _ ?side1 ?side2 A5.out).mono ?_);(case side1=>repeat (exact (Kd.C_below HR1.out HB.out)));(case side2=>exact HC1.out);rintro e w9 ⟨rfl,hb⟩;refine ⟨_,rfl,?_⟩;replace HB:=Aside0.mk (below_step (by with_reducible exact HB.out) hb);(try clear hb);(try clear hb2);(try clear hk);(try clear hi)) | ((with_reducible refine gate_callee (f:=73) rfl ?_);refine goesL_ (some 20) rfl rfl Try.func73 (by kernel_rfl) rfl #[.slice A0 l0.length c0,.slice A1 l1.length c1] rfl (by (try simp only [List.map_toArray,List.map_cons,List.map_nil]);rfl) ?_;(with_reducible refine (replica_Both.calls k (fun k_=>k_ < w.heap.size) _ _ l0 (fun k_=>k_ < w.heap.size) _ _ l1 t172 t175 _ ?side1 ?side2 A7.out).mono ?_);(case side1=>exact Kd.V_mk HC0.out (Kd.F_below (Kd.C_F k128_heap HR0.out) (by with_reducible exact HB.out)));(case side2=>exact Kd.V_mk HC1.out (Kd.F_below (Kd.C_F k128_heap HR1.out) (by with_reducible exact HB.out)));rintro e w10 ⟨v173,rfl,ho0,hb⟩;refine ⟨_,rfl,?_⟩;have n0_:=Aside0.mk (Kd.R_lower (Kd.R_mono (ok':=fun k_=>True) ho0 (fun _ hk_=>trivial)) (below_size (by with_reducible exact HB.out)));have n1_:=Aside0.mk (below_step (by with_reducible exact HB.out) hb);clear HB;have HO174:=n0_;have HB:=n1_;clear n0_ n1_;(try clear hb);(try clear hb2);(try clear hk);(try clear hi);(try clear ho0)))
   go_ret2
   exact ⟨_,by rfl,by exact HO174.out,HB.out⟩
  ·rw [if_neg c6] at H
   have c6b0:(t171 == 0) = false:=beq_eq_false_iff_ne.mpr c6
   have c6b1:(t171 != 0) = true:=bne_iff_ne.mpr c6
   simp only [Option.some.injEq,Prod.mk.injEq] at H
   obtain ⟨rfl,rfl⟩:=H
   go_enter Try.func36,Try.ntmps36
   go_wp2_with (first | ((with_reducible refine gate_callee (f:=72) rfl ?_);refine goesL_ (some 9) rfl rfl Try.func72 (by kernel_rfl) rfl #[.slice A0 l0.length c0] rfl (by (try simp only [List.map_toArray,List.map_cons,List.map_nil]);rfl) ?_;(with_reducible refine (replica_Check.calls k _ _ l0 t170 _ ?side1 ?side2 A3.out).mono ?_);(case side1=>repeat (exact HR0.out));(case side2=>exact HC0.out);rintro e w11 ⟨rfl,hb⟩;refine ⟨_,rfl,?_⟩;replace HB:=Aside0.mk (below_step (by with_reducible exact HB.out) hb);(try clear hb);(try clear hb2);(try clear hk);(try clear hi)) | ((with_reducible refine gate_callee (f:=72) rfl ?_);refine goesL_ (some 14) rfl rfl Try.func72 (by kernel_rfl) rfl #[.slice A1 l1.length c1] rfl (by (try simp only [List.map_toArray,List.map_cons,List.map_nil]);rfl) ?_;(with_reducible refine (replica_Check.calls k _ _ l1 t171 _ ?side1 ?side2 A5.out).mono ?_);(case side1=>repeat (exact (Kd.C_below HR1.out HB.out)));(case side2=>exact HC1.out);rintro e w12 ⟨rfl,hb⟩;refine ⟨_,rfl,?_⟩;replace HB:=Aside0.mk (below_step (by with_reducible exact HB.out) hb);(try clear hb);(try clear hb2);(try clear hk);(try clear hi)))
   go_ret2
   exact ⟨_,by rfl,by exact Kd.R_nil _ _ _ _ _,HB.out⟩
 ·rw [if_neg c4] at H
  have c4b0:(t170 == 0) = false:=beq_eq_false_iff_ne.mpr c4
  have c4b1:(t170 != 0) = true:=bne_iff_ne.mpr c4
  simp only [Option.some.injEq,Prod.mk.injEq] at H
  obtain ⟨rfl,rfl⟩:=H
  go_enter Try.func36,Try.ntmps36
  go_wp2_with (((with_reducible refine gate_callee (f:=72) rfl ?_);refine goesL_ (some 9) rfl rfl Try.func72 (by kernel_rfl) rfl #[.slice A0 l0.length c0] rfl (by (try simp only [List.map_toArray,List.map_cons,List.map_nil]);rfl) ?_;(with_reducible refine (replica_Check.calls k _ _ l0 t170 _ ?side1 ?side2 A3.out).mono ?_);(case side1=>repeat (exact HR0.out));(case side2=>exact HC0.out);rintro e w13 ⟨rfl,hb⟩;refine ⟨_,rfl,?_⟩;replace HB:=Aside0.mk (below_step (by with_reducible exact HB.out) hb);(try clear hb);(try clear hb2);(try clear hk);(try clear hi)))
  go_ret2
  exact ⟨_,by rfl,by exact Kd.R_nil _ _ _ _ _,HB.out⟩
end
end Go.Proofs.Ytlcodfjlbhjkbaa.PDelta
end

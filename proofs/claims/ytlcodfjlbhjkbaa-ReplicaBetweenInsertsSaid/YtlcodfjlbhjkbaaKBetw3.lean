/- Parts of the proof of Betw: nothing is claimed here by itself. -/
import Derived.Test.YtlcodfjlbhjkbaaKBetw2
import Derived.StillTailTactics
import Derived.Shelf.GgSortFunc.InsertionK
import Derived.Test.YtlcodfjlbhjkbaaChecked
import Derived.Shelf.SlSortCmp.WholeK
import Derived.Sort.LotA
import Derived.Laws.EntriesVeiled
set_option linter.unusedVariables false
set_option linter.unusedSimpArgs false
section
namespace Go.Proofs.Ytlcodfjlbhjkbaa.PDelta
open Go.RowKit Go.Maps Go.Sort Go.Proofs.YtlcodfjlbhjkbaaW.PrintWords Go.Proofs.YtlcodfjlbhjkbaaW.PrintLast Go.Proofs.YtlcodfjlbhjkbaaW.PrintMore
theorem or2_calls (A:Option Addr) (c:Nat) (a b:Int) (w:World) (hr0:Kd.C (Kd.int .i64) w A 2 [a,b]) (hc0:2 ≤ c) :
 Calls Try.prog 111 #[.slice A 2 c] w fun e w'=>e = .returned (.int .i64 (orI a b)) ∧ Drawn0 w w' :=
 cmp_Or_int.calls 3 A c [a,b] _ w hr0 hc0 (or_f a b)
theorem lit2 (w:World) (a b:Int):Kd.C (Kd.int .i64) (w.alloc (Obj.cells #[.int .i64 a,.int .i64 b] 3)) (some ⟨w.heap.size,0,none⟩) 2 [a,b]:=by
 refine ⟨rfl,by decide,fun _=>⟨_,rfl,fun j p hj=>?_⟩⟩
 have hb:=blk_new w (.cells #[.int .i64 a,.int .i64 b] 3)
 match j,hj with
 | 0,hj =>
  obtain rfl:a = p:=by simpa using hj
  exact ⟨[.int .i64 a],rfl,rfl,fun i u hu=>by
   match i,hu with
   | 0,hu =>
    obtain rfl:_ = u:=by simpa using hu
    exact (blk_cell hb 0).trans rfl⟩
 | 1,hj =>
  obtain rfl:b = p:=by simpa using hj
  exact ⟨[.int .i64 b],rfl,rfl,fun i u hu=>by
   match i,hu with
   | 0,hu =>
    obtain rfl:_ = u:=by simpa using hu
    exact (blk_cell hb 1).trans rfl⟩
 | j + 2,hj=>simp at hj
set_option maxRecDepth 100000 in
set_option maxHeartbeats 4000000 in
theorem cmpp_calls (x y:It4) (w:World):Calls Try.prog 110 #[.agg (enc4 x).toArray,.agg (enc4 y).toArray] w fun e w'=>e = .returned (.int .i64 (cmpP x y)) ∧ Gr w w':=by
 unfold enc4 cmpP
 have HCS:Aside0 (∀ W,Calls Try.prog 112 #[.string x.s,.string y.s] W fun e w'=>e = .returned (.int .i64 (cmpS x.s y.s)) ∧ w' = W):=⟨cmps_calls x.s y.s⟩
 have HCI:Aside0 (cmp_Compare_int.f x.i y.i = some (cmpI x.i y.i)):=⟨cmpi_f _ _⟩
 generalize cmpS x.s y.s = cs at HCS ⊢
 generalize cmpI x.i y.i = ci at HCI ⊢
 go_enter Try.func110,Try.ntmps110
 go_upto_region 1 with (fail)
 obtain ⟨w1,hw1⟩:∃ W,W = w.alloc (Obj.cells #[.int .i64 x.i,.int .i64 x.p,.string x.s,.slice x.A x.n x.c] 87):=⟨_,rfl⟩
 obtain ⟨w2,hw2⟩:∃ W,W = w1.alloc (Obj.cells #[.int .i64 y.i,.int .i64 y.p,.string y.s,.slice y.A y.n y.c] 87):=⟨_,rfl⟩
 obtain ⟨ga,hga⟩:∃ g,g = w.heap.size:=⟨_,rfl⟩
 obtain ⟨gb,hgb⟩:∃ g,g = w.heap.size + 1:=⟨_,rfl⟩
 have hb1:w1.heap[ga]? = some (.cells #[.int .i64 x.i,.int .i64 x.p,.string x.s,.slice x.A x.n x.c] 87 (0,0)):=by rw [hw1,hga];exact blk_new w _
 have HA1:Aside0 (w2.heap[ga]? = some (.cells #[.int .i64 x.i,.int .i64 x.p,.string x.s,.slice x.A x.n x.c] 87 (0,0))):=⟨by rw [hw2];exact blk_alloc hb1 _⟩
 have hgb1:gb = w1.heap.size:=by rw [hgb,hw1];simp
 have HB1:Aside0 (w2.heap[gb]? = some (.cells #[.int .i64 y.i,.int .i64 y.p,.string y.s,.slice y.A y.n y.c] 87 (0,0))):=⟨by rw [hw2,hgb1];exact blk_new w1 _⟩
 have HG1:Aside0 (Gr w w2):=⟨by rw [hw2,hw1];exact (Gr.refl _).alloc _ |>.alloc _⟩
 have HA2:=Aside0.mk (blk_drew HA1.out)
 have HB2:=Aside0.mk (blk_drew HB1.out)
 have HG2:=Aside0.mk HG1.out.drew
 rw [← hw1,← hw2,← hgb,← hga]
 clear hw1 hw2 hga hgb hb1 hgb1 HA1 HB1 HG1
 refine start_ (n:=13) (S:=fun w'=>w'.cell? ⟨ga,2,none⟩ = some (.string x.s) ∧ w'.cell? ⟨gb,2,none⟩ = some (.string y.s) ∧ w'.cell? ⟨ga,0,none⟩ = some (.int .i64 x.i) ∧ w'.cell? ⟨gb,0,none⟩ = some (.int .i64 y.i)) (ds:=[]) #[false,false,false,false,false,false,false,false,false,false,false,false,false] (by kernel_rfl) rfl rfl ⟨((blk_cell HA2.out 2).trans rfl),((blk_cell HB2.out 2).trans rfl),((blk_cell HA2.out 0).trans rfl),((blk_cell HB2.out 0).trans rfl)⟩ (fun hHeld=>?_)
 refine pure_ (i:=0) (N:=some 5) (v:=?_) (a':=?_) (bm 1 13) rfl rfl (by kernel_rfl) (fun _ _ _ h=>h) (Or.inl ⟨by rfl,?_⟩) ?_ ?_
 rotate_left
 ·intro w'
  go_simp
  with_reducible rfl
 rotate_left
 ·simp only [Act.put,sA,sB,sC,i64_w,i32_w]
  rfl
 refine pure_ (i:=2) (N:=some 7) (v:=?_) (a':=?_) (bm 5 13) rfl rfl (by kernel_rfl) (fun _ _ _ h=>h) (Or.inl ⟨by rfl,?_⟩) ?_ ?_
 rotate_left
 ·intro w'
  go_simp
  with_reducible rfl
 rotate_left
 ·simp only [Act.put,sA,sB,sC,i64_w,i32_w]
  rfl
 refine pure_ (i:=5) (N:=some 10) (v:=?_) (a':=?_) (bm 37 13) rfl rfl (by kernel_rfl) (fun _ _ _ h=>h) (Or.inl ⟨by rfl,?_⟩) ?_ ?_
 rotate_left
 ·intro w'
  go_simp
  with_reducible rfl
 rotate_left
 ·simp only [Act.put,sA,sB,sC,i64_w,i32_w]
  rfl
 refine pure_ (i:=7) (N:=some 12) (v:=?_) (a':=?_) (bm 165 13) rfl rfl (by kernel_rfl) (fun _ _ _ h=>h) (Or.inl ⟨by rfl,?_⟩) ?_ ?_
 rotate_left
 ·intro w'
  go_simp
  with_reducible rfl
 rotate_left
 ·simp only [Act.put,sA,sB,sC,i64_w,i32_w]
  rfl
 refine take_ (i:=1) (N:=some 6) (v:=?_) (a':=?_) (bm 167 13) rfl rfl (by kernel_rfl) (fun _ _ _ h=>h) (Or.inl ⟨by rfl,?_⟩) hHeld ?_ ?_
 rotate_left
 ·rintro w' ⟨s0,s1,s2,s3⟩
  go_simp
  with_reducible rfl
 rotate_left
 ·simp only [Act.put,sA,sB,sC,i64_w,i32_w]
  rfl
 refine take_ (i:=3) (N:=some 8) (v:=?_) (a':=?_) (bm 175 13) rfl rfl (by kernel_rfl) (fun _ _ _ h=>h) (Or.inl ⟨by rfl,?_⟩) hHeld ?_ ?_
 rotate_left
 ·rintro w' ⟨s0,s1,s2,s3⟩
  go_simp
  with_reducible rfl
 rotate_left
 ·simp only [Act.put,sA,sB,sC,i64_w,i32_w]
  rfl
 refine take_ (i:=6) (N:=some 11) (v:=?_) (a':=?_) (bm 239 13) rfl rfl (by kernel_rfl) (fun _ _ _ h=>h) (Or.inl ⟨by rfl,?_⟩) hHeld ?_ ?_
 rotate_left
 ·rintro w' ⟨s0,s1,s2,s3⟩
  go_simp
  with_reducible rfl
 rotate_left
 ·simp only [Act.put,sA,sB,sC,i64_w,i32_w]
  rfl
 refine take_ (i:=8) (N:=some 13) (v:=?_) (a':=?_) (bm 495 13) rfl rfl (by kernel_rfl) (fun _ _ _ h=>h) (Or.inl ⟨by rfl,?_⟩) hHeld ?_ ?_
 rotate_left
 ·rintro w' ⟨s0,s1,s2,s3⟩
  go_simp
  with_reducible rfl
 rotate_left
 ·simp only [Act.put,sA,sB,sC,i64_w,i32_w]
  rfl
 refine one_ (i:=4) (N:=some 9) (bm 511 13) rfl rfl (by kernel_rfl) (by decide) (fun K hK=>?_)
 refine goes_ Try.func112 (by kernel_rfl) rfl #[.string x.s,.string y.s] (by rfl) rfl rfl (by simp only [List.map_toArray,List.map_cons,List.map_nil];rfl) ?_
 with_reducible refine (HCS.out _).mono ?_
 rintro e3 w3_ ⟨rfl,rfl⟩
 refine ⟨_,rfl,?_⟩
 refine hK.out _ _ ⟨((blk_cell HA2.out 2).trans rfl),((blk_cell HB2.out 2).trans rfl),((blk_cell HA2.out 0).trans rfl),((blk_cell HB2.out 0).trans rfl)⟩ (fun hHeld=>?_)
 clear hK K
 refine norm_ (a':=?_) ?_ ?_
 rotate_left
 ·show Act.put _ (some 9) _ = _
  simp only [Act.put,sA,sB,sC,i64_w,i32_w]
  rfl
 refine one_ (i:=9) (N:=some 14) (bm 1023 13) rfl rfl (by kernel_rfl) (by decide) (fun K hK=>?_)
 refine goes_ Try.func113 (by kernel_rfl) rfl #[.int .i64 x.i,.int .i64 y.i] (by rfl) rfl rfl (by simp only [List.map_toArray,List.map_cons,List.map_nil];rfl) ?_
 with_reducible refine (cmp_Compare_int.calls x.i y.i ci _ HCI.out).mono ?_
 rintro e4 w4_ ⟨rfl,hd4⟩
 refine ⟨_,rfl,?_⟩
 have HA4:=Aside0.mk ((hd4.below.block ga (blk_lt HA2.out)).trans HA2.out)
 have HB4:=Aside0.mk ((hd4.below.block gb (blk_lt HB2.out)).trans HB2.out)
 have HG4:=Aside0.mk (HG2.out.drawn hd4)
 clear hd4
 refine hK.out _ _ ⟨((blk_cell HA4.out 2).trans rfl),((blk_cell HB4.out 2).trans rfl),((blk_cell HA4.out 0).trans rfl),((blk_cell HB4.out 0).trans rfl)⟩ (fun hHeld=>?_)
 clear hK K
 refine norm_ (a':=?_) ?_ ?_
 rotate_left
 ·show Act.put _ (some 14) _ = _
  simp only [Act.put,sA,sB,sC,i64_w,i32_w]
  rfl
 refine one_ (i:=10) (N:=some 15) (bm 2047 13) rfl rfl (by kernel_rfl) (by decide) (fun K hK=>?_)
 refine value_ (w1:=?_) (v:=?_) (by rfl) rfl ?_ ?_
 rotate_left 2
 ·go_simp
  constructor
  ·rfl
  ·rfl
 have HA5:=Aside0.mk (blk_alloc HA4.out (Obj.cells #[.int .i64 cs,.int .i64 ci] 3))
 have HB5:=Aside0.mk (blk_alloc HB4.out (Obj.cells #[.int .i64 cs,.int .i64 ci] 3))
 have HG5:=Aside0.mk (HG4.out.alloc (Obj.cells #[.int .i64 cs,.int .i64 ci] 3))
 have HL5:=Aside0.mk (lit2 w4_ cs ci)
 refine hK.out _ _ ⟨((blk_cell HA5.out 2).trans rfl),((blk_cell HB5.out 2).trans rfl),((blk_cell HA5.out 0).trans rfl),((blk_cell HB5.out 0).trans rfl)⟩ (fun hHeld=>?_)
 clear hK K
 refine norm_ (a':=?_) ?_ ?_
 rotate_left
 ·show Act.put _ (some 15) _ = _
  simp only [Act.put,sA,sB,sC,i64_w,i32_w]
  rfl
 refine one_ (i:=11) (N:=some 16) (bm 4095 13) rfl rfl (by kernel_rfl) (by decide) (fun K hK=>?_)
 refine goes_ Try.func111 (by kernel_rfl) rfl #[.slice (some ⟨w4_.heap.size,0,none⟩) 2 2] (by rfl) rfl rfl (by simp only [List.map_toArray,List.map_cons,List.map_nil];rfl) ?_
 with_reducible refine (or2_calls (some ⟨w4_.heap.size,0,none⟩) 2 cs ci _ HL5.out (Nat.le_refl _)).mono ?_
 rintro e6 w6_ ⟨rfl,hd6⟩
 refine ⟨_,rfl,?_⟩
 have HA6:=Aside0.mk ((hd6.below.block ga (blk_lt HA5.out)).trans HA5.out)
 have HB6:=Aside0.mk ((hd6.below.block gb (blk_lt HB5.out)).trans HB5.out)
 have HG6:=Aside0.mk (HG5.out.drawn hd6)
 clear hd6
 refine hK.out _ _ ⟨((blk_cell HA6.out 2).trans rfl),((blk_cell HB6.out 2).trans rfl),((blk_cell HA6.out 0).trans rfl),((blk_cell HB6.out 0).trans rfl)⟩ (fun hHeld=>?_)
 clear hK K
 refine norm_ (a':=?_) ?_ ?_
 rotate_left
 ·show Act.put _ (some 16) _ = _
  simp only [Act.put,sA,sB,sC,i64_w,i32_w]
  rfl
 refine pure_ (i:=12) (N:=some 4) (v:=?_) (a':=?_) (bm 8191 13) rfl rfl (by kernel_rfl) (fun _ _ _ h=>h) (Or.inl ⟨by rfl,?_⟩) ?_ ?_
 rotate_left
 ·intro w'
  go_simp
  with_reducible rfl
 rotate_left
 ·simp only [Act.put,sA,sB,sC,i64_w,i32_w]
  rfl
 refine done_ (by kernel_rfl) ?_
 have HGE:=HG6
 clear hHeld HA6 HB6
 go_wp2
 go_ret
 exact ⟨rfl,HGE.out⟩
theorem enc4_len (x:It4):(enc4 x).length = 4:=rfl
theorem enc4_one (x:It4):∀ v ∈ enc4 x,v.oneCell' = true:=by
 intro v hv
 simp only [enc4,List.mem_cons,List.not_mem_nil,or_false] at hv
 rcases hv with rfl | rfl | rfl | rfl <;> rfl
def RowIs (w:World) (base:Nat) (v:Value) (xs:List It4):Prop:=w.ownsRow base 87 4 v xs.length (xs.flatMap enc4)
theorem flat_len (L:List It4):(L.flatMap enc4).length = L.length * 4:=by
 induction L with
 | nil=>rfl
 | cons x r ih=>rw [List.flatMap_cons,List.length_append,ih,enc4_len,List.length_cons];omega
theorem flat_get:∀ (L:List It4) (t:Nat),t < L.length * 4 → (L.flatMap enc4)[t]? = some ((enc4 L[t / 4]!)[t % 4]!)
 | [],t,h=>by simp at h
 | x :: r,t,h=>by
  rw [List.flatMap_cons]
  by_cases ht:t < 4
  ·rw [List.getElem?_append_left (by rw [enc4_len];exact ht)]
   have e1:t / 4 = 0:=by omega
   have e2:t % 4 = t:=by omega
   rw [e1,e2]
   have hl:t < (enc4 x).length:=by rw [enc4_len];exact ht
   rw [List.getElem?_eq_getElem hl]
   simp [hl]
  ·rw [List.getElem?_append_right (by rw [enc4_len];omega),enc4_len,flat_get r (t - 4) (by simp only [List.length_cons] at h;omega)]
   have e1:t / 4 = (t - 4) / 4 + 1:=by omega
   have e2:t % 4 = (t - 4) % 4:=by omega
   rw [e1,e2]
   simp
theorem flatK_list (L:List It4):(flatK enc4 4 L.toArray).toList = L.flatMap enc4:=by
 apply List.ext_getElem?
 intro t
 by_cases ht:t < L.length * 4
 ·rw [flat_get L t ht,Array.getElem?_toList]
  have hs:t < (flatK enc4 4 L.toArray).size:=by rw [size_flatK];simpa using ht
  rw [Array.getElem?_eq_getElem hs]
  have h2:=get_flatK enc4 4 L.toArray t (by simpa using ht)
  rw [getElem!_pos _ t hs] at h2
  rw [h2]
  simp
 ·rw [List.getElem?_eq_none (by rw [Array.length_toList,size_flatK];simpa using ht),List.getElem?_eq_none (by rw [flat_len];omega)]
theorem RowIs.holds {w:World} {base g n cap:Nat} {L:List It4} (h:RowIs w base (.slice (some ⟨g,0,none⟩) n cap) L):HoldsK enc4 4 w g 0 L.toArray ∧ g < w.heap.size ∧ n = L.length:=by
 rcases h.2 with ⟨h0,_⟩ | ⟨g',cap',cur,e,hb,hh,h1,h2,h3,h4⟩
 ·cases h0
 injection e with e1 e2 e3
 obtain rfl:g = g':=by injection e1 with e1;injection e1
 refine ⟨fun j hj=>?_,blk_lt hh,e2⟩
 rw [size_flatK] at hj
 have hj:j < L.length * 4:=by simpa using hj
 refine ⟨?_,by simp [World.frozen?,hh]⟩
 rw [Nat.zero_add,blk_cell hh j]
 have h5:(cur.toList.take (L.length * 4))[j]? = (L.flatMap enc4)[j]?:=by rw [h4]
 rw [List.getElem?_take_of_lt hj,Array.getElem?_toList,← flatK_list,Array.getElem?_toList] at h5
 rw [h5]
 have hs:j < (flatK enc4 4 L.toArray).size:=by rw [size_flatK];simpa using hj
 rw [Array.getElem?_eq_getElem hs,getElem!_pos _ j hs]
 rfl
theorem sorted_block {w:World} {g m:Nat} {os:Array Obj} {cur:Array Value} {e:TypeId} {fr:Nat × Nat} (d:Array It4) (hb:w.heap[g]? = some (.cells cur e fr)) :
 (sortWorldK enc4 4 w g 0 m d os).heap[g]? = some (.cells (putCells id 0 (flatK enc4 4 d) cur) e fr):=by
 have hg:g < w.heap.size:=blk_lt hb
 unfold sortWorldK putRowK
 rw [heap_grow_old _ _ (by simpa [putRow,mapBlock,Sort.ahead] using hg)]
 simp [putRow,mapBlock,Sort.ahead,Array.getElem?_modify,hb,onCells]
theorem sorted_grown {w:World} {g m:Nat} {os:Array Obj} (d:Array It4):w.grownBy (sortWorldK enc4 4 w g 0 m d os) (some g):=by
 unfold sortWorldK putRowK
 refine ⟨rfl,rfl,rfl,by simp [putRow,mapBlock,Sort.ahead],fun k hk hne=>?_⟩
 rw [heap_grow_old _ _ (by simpa [putRow,mapBlock,Sort.ahead] using hk)]
 have:g ≠ k:=fun e=>hne (by rw [e])
 simp [putRow,mapBlock,Sort.ahead,Array.getElem?_modify,this]
theorem RowIs.sorted {w:World} {base g n cap m:Nat} {L:List It4} {os:Array Obj} (h:RowIs w base (.slice (some ⟨g,0,none⟩) n cap) L) (d:Array It4) (hd:d.size = L.length) :
 RowIs (sortWorldK enc4 4 w g 0 m d os) base (.slice (some ⟨g,0,none⟩) n cap) d.toList:=by
 rcases h.2 with ⟨h0,_⟩ | ⟨g',cap',cur,e,hb,hh,h1,h2,h3,h4⟩
 ·cases h0
 injection e with e1 e2 e3
 obtain rfl:g = g':=by injection e1 with e1;injection e1
 subst e2 e3
 have hl:d.toList.length = L.length:=by simpa using hd
 refine ⟨flat_len _,.inr ⟨g,cap,_,by rw [hl],hb,sorted_block d hh,by rw [hl];exact h1,h2,by simpa [putCells] using h3,?_⟩⟩
 have h6:=flatK_list d.toList
 rw [Array.toArray_toList] at h6
 apply List.ext_getElem?
 intro j
 by_cases hj:j < d.toList.length * 4
 ·rw [List.getElem?_take_of_lt hj,Array.getElem?_toList,← h6,Array.getElem?_toList]
  have hs:j < (flatK enc4 4 d).size:=by rw [size_flatK];simpa using hj
  have hc:j < cur.size:=by rw [h3];rw [hl] at hj;omega
  have hs':j < d.size * 4:=by simpa using hj
  simp [putCells,hc,hs']
 ·rw [List.getElem?_eq_none (by rw [List.length_take];omega),List.getElem?_eq_none (by rw [flat_len];omega)]
def insB {α:Type} (lt:α → α → Bool) (x:α):List α → List α
 | []=>[x]
 | y :: r=>if lt y x = true then y :: insB lt x r else x :: y :: r
def sortB {α:Type} (lt:α → α → Bool):List α → List α
 | []=>[]
 | x :: r=>insB lt x (sortB lt r)
def ltP (x y:S87):Bool:=decide (orI (cmpS x.f2 y.f2) (cmpI x.f0 y.f0) < 0)
def ltN (x y:S87):Bool:=decide (cmpI x.f0 y.f0 < 0)
def kidsL (b:Brd) (p:Int):List S87:=b.its.filter (fun x=>x.f1 == p)
def kidsF (b:Brd) (p:Int):List S87:=sortB ltP (kidsL b p)
def visitF:Nat → Brd → Int → List S87 → Option (List S87)
 | 0,_,_,_=>none
 | k + 1,b,p,out=>(kidsF b p).foldlM (fun o x=>if o.length ≤ 1073741824 then visitF k b x.f0 (o ++ [x]) else none) out
def isIn (out:List S87) (i:Int):Bool:=out.any (fun x=>x.f0 == i)
def restF (b:Brd) (out:List S87):List S87:=(sortB ltN b.its).filter (fun x=>!isIn out x.f0)
def OpOK (o:S128):Prop:=(Lit.int .i64 o.f3).wf = true ∧ (Lit.int .i64 o.f4).wf = true
def rawC (k:Nat) (b:Brd):Option (List S87):=(visitF k b 0 []).bind fun out=>some ((out ++ restF b out).map fun x=>⟨x.f0,x.f1,x.f2,b.atD x.f0⟩)
def mk4 (sl:Int → Option Addr × Nat × Nat) (x:S87):It4:=⟨x.f0,x.f1,x.f2,(sl x.f0).1,(sl x.f0).2.1,(sl x.f0).2.2⟩
theorem RowIs.nil (w:World) (base:Nat):RowIs w base (.slice none 0 0) []:=⟨rfl,.inl ⟨rfl,rfl⟩⟩
theorem RowIs.keep {w w':World} {base:Nat} {v:Value} {xs:List It4} (h:RowIs w base v xs) (hm:∀ k,v.ownBlock = some k → w'.heap[k]? = w.heap[k]?):RowIs w' base v xs:=own_move h hm
theorem RowIs.cells {w:World} {base:Nat} {v:Value} {xs:List It4} (h:RowIs w base v xs) {k:Nat} (hk:v.ownBlock = some k):base ≤ k ∧ k < w.heap.size ∧ ∃ cur,w.heap[k]? = some (.cells cur 87 (0,0)):=by
 obtain ⟨cur,hc⟩:=own_typed h k hk
 exact ⟨own_base h k hk,own_lt h k hk,cur,hc⟩
theorem RowIs.slice {w:World} {base:Nat} {v:Value} {xs:List It4} (h:RowIs w base v xs):∃ A c,v = .slice A xs.length c ∧ xs.length ≤ c:=by
 rcases h.2 with ⟨h0,h1⟩ | ⟨g,cap,cur,e,_,_,h1,_⟩
 ·exact ⟨none,0,by rw [h0,h1],by omega⟩
 ·exact ⟨_,cap,e,h1⟩
theorem RowIs.ne {w:World} {base:Nat} {v:Value} {xs:List It4} (h:RowIs w base v xs) {g:Nat} {o:Obj} (hg:w.heap[g]? = some o) (ho:∀ cur,o ≠ .cells cur 87 (0,0)):v.ownBlock ≠ some g:=by
 intro e
 obtain ⟨_,_,cur,hc⟩:=h.cells e
 rw [hg] at hc
 exact ho cur (Option.some.inj hc)
structure WalkS (base K Kb Ob Sb Wb Sm nk:Nat) (gk:Int → Option Value) (sl:Int → Option Addr × Nat × Nat) (b:Brd) (va:Value) (D:List S87) (done:Int → Prop) (w:World) (vo:Value) (out:List S87) (gs:Int → Option Value):Prop where
 kb:w.heap[Kb]? = some (.cells #[.map (some K)] 179 (0,0))
 ob:w.heap[Ob]? = some (.cells #[vo] 70 (0,0))
 sb:w.heap[Sb]? = some (.cells #[.map (some Sm)] 133 (0,0))
 wb:w.heap[Wb]? = some (.cells #[.func (.func 108) #[] #[.pointer (some ⟨Kb,0,none⟩),.pointer (some ⟨Ob,0,none⟩),.pointer (some ⟨Sb,0,none⟩),.pointer (some ⟨Wb,0,none⟩)]] 174 (0,0))
 lO:base ≤ Ob
 lS:base ≤ Sm
 ne:K ≠ Sm
 mK:MapV w K nk gk
 ms:MapV w Sm out.length gs
 gsE:∀ i,gs i = if isIn out i = true then some (.bool true) else none
 kids:∀ p,∃ L,L.Perm (kidsL b p) ∧ (done p → L = kidsF b p) ∧ RowIs w base ((gk p).getD (.slice none 0 0)) (L.map (mk4 sl))
 kap:∀ p q k,p ≠ q → ((gk p).getD (.slice none 0 0)).ownBlock = some k → ((gk q).getD (.slice none 0 0)).ownBlock ≠ some k
 ro:RowIs w base vo (out.map (mk4 sl))
 oap:∀ p k,((gk p).getD (.slice none 0 0)).ownBlock = some k → vo.ownBlock ≠ some k
 ra:RowIs w base va (D.map (mk4 sl))
 aap:∀ p k,((gk p).getD (.slice none 0 0)).ownBlock = some k → va.ownBlock ≠ some k
 voa:∀ k,vo.ownBlock = some k → va.ownBlock ≠ some k
section
variable {base K Kb Ob Sb Wb Sm nk:Nat} {gk:Int → Option Value} {sl:Int → Option Addr × Nat × Nat} {b:Brd} {va:Value} {D:List S87} {done:Int → Prop} {w w':World} {vo:Value} {out:List S87} {gs:Int → Option Value}
theorem not87 {cur:Array Value} {t:TypeId} (h:t ≠ 87):∀ c,Obj.cells cur t (0,0) ≠ .cells c 87 (0,0):=fun c e=>h (by injection e)
theorem mapnot87 {es:Array MapEntry} {n:Nat}:∀ c,Obj.map es n ≠ .cells c 87 (0,0):=fun c e=>by cases e
theorem WalkS.below (h:WalkS base K Kb Ob Sb Wb Sm nk gk sl b va D done w vo out gs) (hb:Below w.heap.size w w'):WalkS base K Kb Ob Sb Wb Sm nk gk sl b va D done w' vo out gs where
 kb:=(hb.block _ (blk_lt h.kb)).trans h.kb
 ob:=(hb.block _ (blk_lt h.ob)).trans h.ob
 sb:=(hb.block _ (blk_lt h.sb)).trans h.sb
 wb:=(hb.block _ (blk_lt h.wb)).trans h.wb
 lO:=h.lO
 lS:=h.lS
 ne:=h.ne
 mK:=h.mK.block (hb.block _ h.mK.lt)
 ms:=h.ms.block (hb.block _ h.ms.lt)
 gsE:=h.gsE
 kids:=fun p=>by
  obtain ⟨L,h1,h2,h3⟩:=h.kids p
  exact ⟨L,h1,h2,h3.keep (fun k hk=>hb.block k (h3.cells hk).2.1)⟩
 kap:=h.kap
 ro:=h.ro.keep (fun k hk=>hb.block k (h.ro.cells hk).2.1)
 oap:=h.oap
 ra:=h.ra.keep (fun k hk=>hb.block k (h.ra.cells hk).2.1)
 aap:=h.aap
 voa:=h.voa
theorem WalkS.sorted (h:WalkS base K Kb Ob Sb Wb Sm nk gk sl b va D done w vo out gs) (p:Int) (hg:w.grownBy w' ((gk p).getD (.slice none 0 0)).ownBlock) (hr:RowIs w' base ((gk p).getD (.slice none 0 0)) ((kidsF b p).map (mk4 sl))) (hp:(kidsF b p).Perm (kidsL b p)) :
 WalkS base K Kb Ob Sb Wb Sm nk gk sl b va D (fun q=>done q ∨ q = p) w' vo out gs:=by
 obtain ⟨L0,_,_,h30⟩:=h.kids p
 have hcell:∀ {g:Nat} {cur:Array Value} {t:TypeId},w.heap[g]? = some (.cells cur t (0,0)) → t ≠ 87 → w'.heap[g]? = some (.cells cur t (0,0)):=fun hb ht=>(hg.block _ (blk_lt hb) (fun e=>h30.ne hb (not87 ht) e.symm)).trans hb
 have hmap:∀ {m:Nat} {es:Array MapEntry} {c:Nat},w.heap[m]? = some (.map es c) → w'.heap[m]? = w.heap[m]?:=fun hb=>hg.block _ (blk_lt hb) (fun e=>h30.ne hb mapnot87 e.symm)
 have hrow:∀ {v:Value} {xs:List It4},RowIs w base v xs → (∀ k,((gk p).getD (.slice none 0 0)).ownBlock = some k → v.ownBlock ≠ some k) → RowIs w' base v xs:=fun hv hk=>hv.keep (fun k e=>hg.block k (hv.cells e).2.1 (fun e'=>hk k e'.symm e))
 obtain ⟨_,_,m1⟩:=h.mK.map
 obtain ⟨_,_,m2⟩:=h.ms.map
 refine { h with kb:=hcell h.kb (by decide),ob:=hcell h.ob (by decide),sb:=hcell h.sb (by decide),wb:=hcell h.wb (by decide),mK:=h.mK.block (hmap m1),ms:=h.ms.block (hmap m2),kids:=fun q=>?_,ro:=hrow h.ro (h.oap p),ra:=hrow h.ra (h.aap p) }
 by_cases hq:q = p
 ·subst hq
  exact ⟨_,hp,fun _=>rfl,hr⟩
 ·obtain ⟨L,h1,h2,h3⟩:=h.kids q
  exact ⟨L,h1,fun hd=>h2 (hd.resolve_right hq),hrow h3 (fun k hk=>h.kap p q k (Ne.symm hq) hk)⟩
structure WalkA (base K Kb Ob Sb Wb Sm nk:Nat) (gk:Int → Option Value) (sl:Int → Option Addr × Nat × Nat) (b:Brd) (va:Value) (D:List S87) (done:Int → Prop) (w:World) (vo:Value) (out:List S87) (gs:Int → Option Value) (vn:Value) (x:S87):Prop where
 kb:w.heap[Kb]? = some (.cells #[.map (some K)] 179 (0,0))
 ob:w.heap[Ob]? = some (.cells #[vo] 70 (0,0))
 sb:w.heap[Sb]? = some (.cells #[.map (some Sm)] 133 (0,0))
 wb:w.heap[Wb]? = some (.cells #[.func (.func 108) #[] #[.pointer (some ⟨Kb,0,none⟩),.pointer (some ⟨Ob,0,none⟩),.pointer (some ⟨Sb,0,none⟩),.pointer (some ⟨Wb,0,none⟩)]] 174 (0,0))
 lO:base ≤ Ob
 lS:base ≤ Sm
 ne:K ≠ Sm
 mK:MapV w K nk gk
 ms:MapV w Sm out.length gs
 gsE:∀ i,gs i = if isIn out i = true then some (.bool true) else none
 kids:∀ p,∃ L,L.Perm (kidsL b p) ∧ (done p → L = kidsF b p) ∧ RowIs w base ((gk p).getD (.slice none 0 0)) (L.map (mk4 sl))
 kap:∀ p q k,p ≠ q → ((gk p).getD (.slice none 0 0)).ownBlock = some k → ((gk q).getD (.slice none 0 0)).ownBlock ≠ some k
 ro:RowIs w base vn ((out ++ [x]).map (mk4 sl))
 oap:∀ p k,((gk p).getD (.slice none 0 0)).ownBlock = some k → vn.ownBlock ≠ some k
 ra:RowIs w base va (D.map (mk4 sl))
 aap:∀ p k,((gk p).getD (.slice none 0 0)).ownBlock = some k → va.ownBlock ≠ some k
 voa:∀ k,vn.ownBlock = some k → va.ownBlock ≠ some k
theorem WalkS.append (h:WalkS base K Kb Ob Sb Wb Sm nk gk sl b va D done w vo out gs) {x:S87} {vn:Value} (hr:RowIs w' base vn ((out ++ [x]).map (mk4 sl))) (hg:w.grownBy w' vo.ownBlock) (hat:vn.ownBlock = vo.ownBlock ∨ ∃ k,vn.ownBlock = some k ∧ w.heap.size ≤ k) :
 WalkA base K Kb Ob Sb Wb Sm nk gk sl b va D done w' vo out gs vn x:=by
 have hcell:∀ {g:Nat} {cur:Array Value} {t:TypeId},w.heap[g]? = some (.cells cur t (0,0)) → t ≠ 87 → w'.heap[g]? = some (.cells cur t (0,0)):=fun hb ht=>(hg.block _ (blk_lt hb) (fun e=>h.ro.ne hb (not87 ht) e.symm)).trans hb
 have hmap:∀ {m:Nat} {es:Array MapEntry} {c:Nat},w.heap[m]? = some (.map es c) → w'.heap[m]? = w.heap[m]?:=fun hb=>hg.block _ (blk_lt hb) (fun e=>h.ro.ne hb mapnot87 e.symm)
 have hrow:∀ {v:Value} {xs:List It4},RowIs w base v xs → (∀ k,vo.ownBlock = some k → v.ownBlock ≠ some k) → RowIs w' base v xs:=fun hv hk=>hv.keep (fun k e=>hg.block k (hv.cells e).2.1 (fun e'=>hk k e'.symm e))
 obtain ⟨_,_,m1⟩:=h.mK.map
 obtain ⟨_,_,m2⟩:=h.ms.map
 have hnew:∀ {v:Value} {xs:List It4},RowIs w base v xs → (∀ k,v.ownBlock = some k → vo.ownBlock ≠ some k) → ∀ k,v.ownBlock = some k → vn.ownBlock ≠ some k:=by
  intro v xs hv hk k e e'
  rcases hat with hat | ⟨k',hat,hs⟩
  ·rw [hat] at e'
   exact hk k e e'
  ·rw [hat] at e'
   cases e'
   exact absurd (hv.cells e).2.1 (by omega)
 refine ⟨hcell h.kb (by decide),hcell h.ob (by decide),hcell h.sb (by decide),hcell h.wb (by decide),h.lO,h.lS,h.ne,h.mK.block (hmap m1),h.ms.block (hmap m2),h.gsE,fun q=>?_,h.kap,hr,fun p k e=>?_,hrow h.ra h.voa,h.aap,fun k e e'=>?_⟩
 ·obtain ⟨L,h1,h2,h3⟩:=h.kids q
  exact ⟨L,h1,h2,hrow h3 (fun k hk hq=>h.oap q k hq hk)⟩
 ·obtain ⟨L,h1,h2,h3⟩:=h.kids p
  exact hnew h3 (h.oap p) k e
 ·exact hnew h.ra (fun k h1 h2=>h.voa k h2 h1) k e' e
theorem WalkA.stored {x:S87} {vn:Value} (h:WalkA base K Kb Ob Sb Wb Sm nk gk sl b va D done w vo out gs vn x) :
 WalkA base K Kb Ob Sb Wb Sm nk gk sl b va D done (w.setCell ⟨Ob,0,none⟩ vn) vn out gs vn x:=by
 have hfar:∀ {g:Nat},g ≠ Ob → (w.setCell ⟨Ob,0,none⟩ vn).heap[g]? = w.heap[g]?:=fun hg=>Below.heap_setCell w ⟨Ob,0,none⟩ vn _ hg
 have hcell:∀ {g:Nat} {cur:Array Value} {t:TypeId},w.heap[g]? = some (.cells cur t (0,0)) → t ≠ 70 → (w.setCell ⟨Ob,0,none⟩ vn).heap[g]? = some (.cells cur t (0,0)):=fun hb ht=>(hfar (fun e=>by
  subst e
  rw [h.ob] at hb
  injection hb with hb
  injection hb with _ hb
  exact ht hb.symm)).trans hb
 have hmap:∀ {m:Nat} {es:Array MapEntry} {c:Nat},w.heap[m]? = some (.map es c) → (w.setCell ⟨Ob,0,none⟩ vn).heap[m]? = w.heap[m]?:=fun hb=>hfar (fun e=>by
  subst e
  rw [h.ob] at hb
  cases hb)
 have hrow:∀ {v:Value} {xs:List It4},RowIs w base v xs → RowIs (w.setCell ⟨Ob,0,none⟩ vn) base v xs:=fun hv=>hv.keep (fun k e=>hfar (fun e'=>hv.ne h.ob (not87 (by decide)) (by rw [e,e'])))
 obtain ⟨_,_,m1⟩:=h.mK.map
 obtain ⟨_,_,m2⟩:=h.ms.map
 refine { h with kb:=hcell h.kb (by decide),ob:=?_,sb:=hcell h.sb (by decide),wb:=hcell h.wb (by decide),mK:=h.mK.block (hmap m1),ms:=h.ms.block (hmap m2),kids:=fun q=>?_,ro:=hrow h.ro,ra:=hrow h.ra }
 ·have:=blk_set h.ob 0 vn
  simpa using this
 ·obtain ⟨L,h1,h2,h3⟩:=h.kids q
  exact ⟨L,h1,h2,hrow h3⟩
theorem isIn_snoc (out:List S87) (x:S87) (i:Int):isIn (out ++ [x]) i = (isIn out i || (x.f0 == i)):=by simp [isIn]
theorem WalkA.marked {x:S87} {vn:Value} (h:WalkA base K Kb Ob Sb Wb Sm nk gk sl b va D done w vn out gs vn x) (hm:MapV w' Sm (out.length + 1) (putV gs x.f0 (.bool true))) (hg:w.grownBy w' (some Sm)) :
 WalkS base K Kb Ob Sb Wb Sm nk gk sl b va D done w' vn (out ++ [x]) (putV gs x.f0 (.bool true)):=by
 obtain ⟨_,_,m2⟩:=h.ms.map
 have hcell:∀ {g:Nat} {cur:Array Value} {t:TypeId},w.heap[g]? = some (.cells cur t (0,0)) → w'.heap[g]? = some (.cells cur t (0,0)):=fun hb=>(grown_move m2 hg _ _ _ hb).trans hb
 have hrow:∀ {v:Value} {xs:List It4},RowIs w base v xs → RowIs w' base v xs:=fun hv=>hv.keep (fun k e=>by
  obtain ⟨_,_,cur,hc⟩:=hv.cells e
  exact grown_move m2 hg _ _ _ hc)
 refine ⟨hcell h.kb,hcell h.ob,hcell h.sb,hcell h.wb,h.lO,h.lS,h.ne,h.mK.kept hg (fun e=>h.ne (by cases e;rfl)),?_,fun i=>?_,fun q=>?_,h.kap,hrow h.ro,h.oap,hrow h.ra,h.aap,h.voa⟩
 ·rw [List.length_append]
  exact hm
 ·rw [isIn_snoc]
  unfold putV
  by_cases hi:i = x.f0
  ·subst hi
   simp
  ·have:(x.f0 == i) = false:=by simpa using Ne.symm hi
   rw [if_neg hi,h.gsE,this,Bool.or_false]
 ·obtain ⟨L,h1,h2,h3⟩:=h.kids q
  exact ⟨L,h1,h2,hrow h3⟩
end
end Go.Proofs.Ytlcodfjlbhjkbaa.PDelta
end
section
namespace Go.Proofs.Ytlcodfjlbhjkbaa.PDelta
open Go.Shelf Go.Lib
open Go.RowKit Go.Maps Go.Sort Go.Proofs.YtlcodfjlbhjkbaaW.PrintWords Go.Proofs.YtlcodfjlbhjkbaaW.PrintLast Go.Proofs.YtlcodfjlbhjkbaaW.PrintMore
def sortIt_ren:Go.Shelf.Ren:=⟨fun | 6=>109 | 15=>119 | 14=>142 | 28=>155 | 29=>156 | 20=>160 | 21=>161 | 22=>162 | 23=>163 | 24=>164 | 25=>165 | 26=>166 | 27=>167 | 46=>173 | 47=>169 | 48=>170 | 49=>174 | 50=>175 | 57=>177 | n=>n,fun | 22=>70 | 24=>87 | 25=>184 | 3=>3 | 39=>188 | 0=>0 | 53=>216 | 55=>218 | 4=>4 | 46=>209 | 45=>208 | 50=>213 | 5=>5 | 9=>9 | 66=>226 | 70=>230 | 76=>234 | 77=>110 | n=>n,fun n=>n⟩
theorem sortIt:SlLaysF0.n6 Try.prog sortIt_ren where
 mixed:=by kernel_rfl
 f6 := ⟨"slices.SortFunc[[]chancery/api.DrawItem,chancery/api.DrawItem]", by decide, Try.func109.trans (congrArg some (by kernel_rfl))⟩
 f14 := ⟨"slices.pdqsortCmpFunc[chancery/api.DrawItem]", by decide, Try.func142.trans (congrArg some (by kernel_rfl))⟩
 f15:=Try.func119.trans (congrArg some (by kernel_rfl))
 f20 := ⟨"slices.insertionSortCmpFunc[chancery/api.DrawItem]", by decide, Try.func160.trans (congrArg some (by kernel_rfl))⟩
 f21 := ⟨"slices.heapSortCmpFunc[chancery/api.DrawItem]", by decide, Try.func161.trans (congrArg some (by kernel_rfl))⟩
 f22 := ⟨"slices.breakPatternsCmpFunc[chancery/api.DrawItem]", by decide, Try.func162.trans (congrArg some (by kernel_rfl))⟩
 f23 := ⟨"slices.choosePivotCmpFunc[chancery/api.DrawItem]", by decide, Try.func163.trans (congrArg some (by kernel_rfl))⟩
 f24 := ⟨"slices.reverseRangeCmpFunc[chancery/api.DrawItem]", by decide, Try.func164.trans (congrArg some (by kernel_rfl))⟩
 f25 := ⟨"slices.partialInsertionSortCmpFunc[chancery/api.DrawItem]", by decide, Try.func165.trans (congrArg some (by kernel_rfl))⟩
 f26 := ⟨"slices.partitionEqualCmpFunc[chancery/api.DrawItem]", by decide, Try.func166.trans (congrArg some (by kernel_rfl))⟩
 f27 := ⟨"slices.partitionCmpFunc[chancery/api.DrawItem]", by decide, Try.func167.trans (congrArg some (by kernel_rfl))⟩
 f28:=Try.func155.trans (congrArg some (by kernel_rfl))
 f29:=Try.func156.trans (congrArg some (by kernel_rfl))
 f46 := ⟨"slices.siftDownCmpFunc[chancery/api.DrawItem]", by decide, Try.func173.trans (congrArg some (by kernel_rfl))⟩
 f47:=Try.func169.trans (congrArg some (by kernel_rfl))
 f48:=Try.func170.trans (congrArg some (by kernel_rfl))
 f49 := ⟨"slices.medianAdjacentCmpFunc[chancery/api.DrawItem]", by decide, Try.func174.trans (congrArg some (by kernel_rfl))⟩
 f50 := ⟨"slices.medianCmpFunc[chancery/api.DrawItem]", by decide, Try.func175.trans (congrArg some (by kernel_rfl))⟩
 f57 := ⟨"slices.order2CmpFunc[chancery/api.DrawItem]", by decide, Try.func177.trans (congrArg some (by kernel_rfl))⟩
 t0:=Try.underlying0
 a0:=Try.isAgg0
 z0:=Try.sizeOf0
 v0:=Try.zeroValue0
 t3:=Try.underlying3
 a3:=Try.isAgg3
 z3:=Try.sizeOf3
 v3:=Try.zeroValue3
 t4:=Try.underlying4
 a4:=Try.isAgg4
 z4:=Try.sizeOf4
 v4:=Try.zeroValue4
 t5:=Try.underlying5
 a5:=Try.isAgg5
 z5:=Try.sizeOf5
 v5:=Try.zeroValue5
 t9:=Try.underlying9
 a9:=Try.isAgg9
 z9:=Try.sizeOf9
 v9:=Try.zeroValue9
 t22:=Try.underlying70
 a22:=Try.isAgg70
 z22:=Try.sizeOf70
 v22:=Try.zeroValue70
 t25:=Try.underlying184
 a25:=Try.isAgg184
 z25:=Try.sizeOf184
 v25:=Try.zeroValue184
 t39:=Try.underlying188
 a39:=Try.isAgg188
 z39:=Try.sizeOf188
 v39:=Try.zeroValue188
 t45:=Try.underlying208
 a45:=Try.isAgg208
 z45:=Try.sizeOf208
 v45:=Try.zeroValue208
 t46:=Try.underlying209
 a46:=Try.isAgg209
 z46:=Try.sizeOf209
 v46:=Try.zeroValue209
 t50:=Try.underlying213
 a50:=Try.isAgg213
 z50:=Try.sizeOf213
 v50:=Try.zeroValue213
 t53:=Try.underlying216
 a53:=Try.isAgg216
 z53:=Try.sizeOf216
 v53:=Try.zeroValue216
 t55:=Try.underlying218
 a55:=Try.isAgg218
 z55:=Try.sizeOf218
 v55:=Try.zeroValue218
 t66:=Try.underlying226
 a66:=Try.isAgg226
 z66:=Try.sizeOf226
 v66:=Try.zeroValue226
 t70:=Try.underlying230
 a70:=Try.isAgg230
 z70:=Try.sizeOf230
 v70:=Try.zeroValue230
 t76:=Try.underlying234
 a76:=Try.isAgg234
 z76:=Try.sizeOf234
 v76:=Try.zeroValue234
 t77:=Try.underlying110
 a77:=Try.isAgg110
 z77:=Try.sizeOf110
 v77:=Try.zeroValue110
set_option maxHeartbeats 2000000 in
theorem insertNone (L:SlLaysF0.n20 Try.prog sortIt_ren) (p:Option Addr) (cap:Nat) (fv:Value) (w:World) :
 Calls Try.prog (sortIt_ren.f 20) #[.slice p 0 cap,.int .i64 0,.int .i64 0,fv] w fun e w'=>e = .returned (.tuple #[]) ∧ w' = w:=by
 go_enter Try.func160,Try.ntmps160
 go_wp2
 refine wp_loop_rounds 1 ?_
 rw [rounds_succ]
 go_wp2
 go_end0
 exact ⟨rfl,rfl⟩
set_option maxHeartbeats 2000000 in
theorem pdqNone (p:Option Addr) (cap:Nat) (lim:Int) (fv:Value) (w:World) :
 Calls Try.prog 142 #[.slice p 0 cap,.int .i64 0,.int .i64 0,.int .i64 lim,fv] w fun e w'=>e = .returned (.tuple #[]) ∧ w' = w:=by
 have hi:=fun W=>insertNone { sortIt with } p cap fv W
 change ∀ W,Calls Try.prog 160 _ _ _ at hi
 go_enter Try.func142,Try.ntmps142
 go_wp2
 refine wp_loop_rounds 1 ?_
 rw [rounds_succ]
 go_wp2_with (go_at_call 160;refine (hi _).mono ?_;rintro e w' ⟨rfl,rfl⟩)
 (try simp only [Exit.inBlock,Exit.then]);refine bodyPost_ret (results_none rfl _ _ _) rfl ?_
 exact ⟨rfl,rfl⟩
set_option maxHeartbeats 2000000 in
theorem sortNone (p:Option Addr) (cap:Nat) (fv:Value) (w:World) :
 Calls Try.prog 109 #[.slice p 0 cap,fv] w fun e w'=>e = .returned (.tuple #[]) ∧ w' = w:=by
 have hp:=fun lim W=>pdqNone p cap lim fv W
 have hl:∀ W,Calls Try.prog 119 #[.int .u64 0] W fun e w'=>e = .returned (.int .i64 (Lib.bitLen 0:Nat)) ∧ w' = W:=fun W=>by
  have h:=Any.bits_Len (SlLaysF0.n15.bits (P:=Try.prog) (ρ:=sortIt_ren) { sortIt with }) 0 W (by omega) (by omega)
  exact h
 go_enter Try.func109,Try.ntmps109
 go_wp2_with (first | (go_at_call 119;refine (hl _).mono ?_;rintro e w' ⟨rfl,rfl⟩) | (go_at_call 142;refine (hp _ _).mono ?_;rintro e w' ⟨rfl,rfl⟩))
 go_end0
 exact ⟨rfl,rfl⟩
theorem sortSome (g:Nat) (cf:It4 → It4 → Int) (hO:SWO (ltOf cf)) (eg:∀ args w,(callFunc g args).run Try.prog w = .ok (.enter g args) w)
 (hc:∀ x y W,Calls Try.prog g #[.agg (enc4 x).toArray,.agg (enc4 y).toArray] W fun e w'=>e = .returned (.int .i64 (cf x y)) ∧ Gr W w')
 (blk cap:Nat) (d:Array It4) (w:World) (hH:HoldsK enc4 4 w blk 0 d) (hblk:blk < w.heap.size) (hsz:d.size < 4611686018427387904) :
 Calls Try.prog 109 #[.slice (some ⟨blk,0,none⟩) d.size cap,.func (.func g) #[] #[]] w fun e w'=>e = .returned (.tuple #[]) ∧ ∃ d' n os,PermIn 0 d.size d d' ∧ SortedIn (ltOf cf) 0 d.size d' ∧ w' = sortWorldK enc4 4 w blk 0 n d' os:=by
 have hcon:=AnyQ.slices_SortFunc sortIt 4 Try.isAgg87 Try.sizeOf87 enc4 enc4_len enc4_one cf hO g #[] blk 0 cap d w eg (fun m os dk _ x y=>(hc x y _).mono fun e w' h=>⟨h.1,h.2.out⟩) hH hblk hsz
 exact hcon
theorem pairwise_of {lt:It4 → It4 → Bool} {d:Array It4} (h:SortedIn lt 0 d.size d):d.toList.Pairwise (fun x y=>lt y x = false):=by
 rw [List.pairwise_iff_getElem]
 intro i j hi hj hij
 have:=h i j (Nat.zero_le _) hij (by simpa using hj)
 rw [getElem!_pos d j (by simpa using hj),getElem!_pos d i (by simpa using hi)] at this
 simpa using this
theorem sort_calls (g:Nat) (cf:It4 → It4 → Int) (hO:SWO (ltOf cf)) (eg:∀ args w,(callFunc g args).run Try.prog w = .ok (.enter g args) w)
 (hc:∀ x y W,Calls Try.prog g #[.agg (enc4 x).toArray,.agg (enc4 y).toArray] W fun e w'=>e = .returned (.int .i64 (cf x y)) ∧ Gr W w')
 (v:Value) (base:Nat) (L:List It4) (w:World) (h:RowIs w base v L) (hl:L.length < 4611686018427387904) :
 Calls Try.prog 109 #[v,.func (.func g) #[] #[]] w fun e w'=>e = .returned (.tuple #[]) ∧ ∃ L',L'.Perm L ∧ L'.Pairwise (fun x y=>ltOf cf y x = false) ∧ RowIs w' base v L' ∧ w.grownBy w' v.ownBlock:=by
 rcases h.2 with ⟨h0,h1⟩ | ⟨blk,cap,cur,e,_,_,h1,_⟩
 ·subst h0
  have hL:L = []:=List.eq_nil_of_length_eq_zero h1
  subst hL
  refine (sortNone none 0 (.func (.func g) #[] #[]) w).mono ?_
  rintro e w' ⟨rfl,rfl⟩
  exact ⟨rfl,[],List.Perm.nil,List.Pairwise.nil,h,⟨rfl,rfl,rfl,Nat.le_refl _,fun _ _ _=>rfl⟩⟩
 ·subst e
  obtain ⟨hH,hb,hn⟩:=RowIs.holds h
  have hs:L.toArray.size = L.length:=by simp
  have hcon:=sortSome g cf hO eg hc blk cap L.toArray w hH hb (by rw [hs];exact hl)
  rw [hs] at hcon
  refine hcon.mono ?_
  rintro e w' ⟨rfl,d',n,os,hp,hsd,rfl⟩
  have hd:d'.size = L.length:=by rw [hp.1,hs]
  refine ⟨rfl,d'.toList,?_,pairwise_of (by rw [hd];exact hsd),RowIs.sorted h d' hd,?_⟩
  ·have h3:=hp.2.2
   rw [show L.length = d'.size from hd.symm] at h3
   have e1:(d'.extract 0 d'.size).toList = d'.toList:=by simp
   have e2:(L.toArray.extract 0 d'.size).toList = L:=by rw [hd];simp
   rwa [e1,e2] at h3
  ·exact sorted_grown d'
end Go.Proofs.Ytlcodfjlbhjkbaa.PDelta
end
section
namespace Go.Proofs.Ytlcodfjlbhjkbaa.PDelta
open Go.RowKit Go.Proofs.YtlcodfjlbhjkbaaW.PrintWords Go.Proofs.YtlcodfjlbhjkbaaW.PrintLast Go.Proofs.YtlcodfjlbhjkbaaW.PrintMore
attribute [local go_sem] max2_int min2_int max_two min_two max_three min_three max_four min_four
attribute [local go_sem high] Go.Proofs.Ytlcodfjlbhjkbaa.Ord.leq_str Go.Proofs.Ytlcodfjlbhjkbaa.Ord.gtr_str Go.Proofs.Ytlcodfjlbhjkbaa.Ord.geq_str
end Go.Proofs.Ytlcodfjlbhjkbaa.PDelta
end
section
namespace Go.Proofs.Ytlcodfjlbhjkbaa.PDelta
open Go.RowKit Go.Proofs.YtlcodfjlbhjkbaaW.PrintWords Go.Proofs.YtlcodfjlbhjkbaaW.PrintLast Go.Proofs.YtlcodfjlbhjkbaaW.PrintMore
theorem wrap_up {i:Int} (h0:0 ≤ i) (h:i ≤ 1099511627776):wrap64 (i + 1) = i + 1:=by unfold wrap64;omega
def chOK (first:Prop) (c:Int):Prop:=(97 ≤ c ∧ c ≤ 122) ∨ (¬ first ∧ (c = 46 ∨ c = 45 ∨ (48 ≤ c ∧ c ≤ 57)))
def NameOK (s:ByteArray):Prop:=1 ≤ s.size ∧ s.size ≤ 24 ∧ ∀ i:Int,0 ≤ i → i < s.size → chOK (i = 0) (bt s i)
def ValOK (s:ByteArray):Prop:=1 ≤ s.size ∧ s.size ≤ 200 ∧ ∀ i:Int,0 ≤ i → i < s.size → 32 ≤ bt s i ∧ bt s i ≤ 126
theorem size_list (s:ByteArray):s.toList.length = s.size:=by rw [ByteArray.toList_eq];rfl
theorem list_nil {s:ByteArray}:s.toList = [] ↔ s.size = 0:=by rw [← size_list,List.length_eq_zero_iff]
theorem name_l0 (s:ByteArray) (hs:s.size ≤ 1099511627776) (d:Nat):∀ (k:Nat) (i:Int),0 ≤ i → i ≤ s.size → (s.size:Int) - i = d → d < k →
 ∃ b,attr_Name.l0 k s (s.size:Int) i = some b ∧ (b = true ↔ ∀ j:Int,i ≤ j → j < s.size → chOK False (bt s j)):=by
 induction d with
 | zero =>
  intro k i h0 h1 hd hk
  obtain ⟨k,rfl⟩:∃ m,k = m + 1:=⟨k - 1,by omega⟩
  simp only [attr_Name.l0]
  rw [if_neg (by omega)]
  exact ⟨true,rfl,⟨fun _ j h2 h3=>by omega,fun _=>rfl⟩⟩
 | succ d ih =>
  intro k i h0 h1 hd hk
  obtain ⟨k,rfl⟩:∃ m,k = m + 1:=⟨k - 1,by omega⟩
  have hlt:i < (s.size:Int):=by omega
  by_cases hc:chOK False (bt s i)
  ·have e:attr_Name.l0 (k + 1) s (s.size:Int) i = attr_Name.l0 k s (s.size:Int) (i + 1):=by
    simp only [attr_Name.l0]
    rw [if_pos hlt,if_pos h0,if_pos hlt,wrap_up h0 (by omega)]
    unfold chOK at hc
    repeat' (first | rfl | split)
    all_goals (exfalso;omega)
   obtain ⟨b,hb,hi⟩:=ih k (i + 1) (by omega) (by omega) (by omega) (by omega)
   refine ⟨b,e.trans hb,hi.trans ⟨fun h j h2 h3=>?_,fun h j h2 h3=>h j (by omega) h3⟩⟩
   rcases Int.lt_or_eq_of_le h2 with h4 | h4
   ·exact h j (by omega) h3
   ·subst h4;exact hc
  ·refine ⟨false,?_,⟨(fun h=>by cases h),(fun h=>absurd (h i (Int.le_refl _) hlt) hc)⟩⟩
   have hc':¬ ((97 ≤ bt s i ∧ bt s i ≤ 122) ∨ (bt s i = 46 ∨ bt s i = 45 ∨ (48 ≤ bt s i ∧ bt s i ≤ 57))):=fun h=>hc (h.imp id (fun h=>⟨id,h⟩))
   clear hc
   simp only [attr_Name.l0]
   rw [if_pos hlt,if_pos h0,if_pos hlt]
   repeat' (first | rfl | split)
   all_goals (exfalso;omega)
theorem name_ev (s:ByteArray) (hs:s.size ≤ 1099511627776):∃ b,Ev (fun k=>attr_Name.f k s) b ∧ (b = true ↔ NameOK s):=by
 have bad:∀ k,attr_Name.j0 (k + 1) s true = some false:=fun k=>by simp only [attr_Name.j0];rw [if_pos trivial]
 have fls:¬ NameOK s → attr_Name.f 1 s = some false → ∃ b,Ev (fun k=>attr_Name.f k s) b ∧ (b = true ↔ NameOK s):=fun h e=>⟨false,Ev.of (fun k=>attr_Name.mono s k) e,⟨(fun h=>by cases h),(fun h'=>absurd h' h)⟩⟩
 by_cases h0:s.size = 0
 ·exact fls (fun h=>by have:=h.1;omega) (by simp only [attr_Name.f];rw [if_pos (list_nil.2 h0)];exact bad 0)
 have hn:¬ s.toList = []:=fun h=>h0 (list_nil.1 h)
 by_cases h1:(s.size:Int) > 24
 ·exact fls (fun h=>by have:=h.2.1;omega) (by simp only [attr_Name.f];rw [if_neg hn,if_pos h1];exact bad 0)
 by_cases h2:bt s 0 < 97
 ·exact fls (fun h=>by have:=h.2.2 0 (Int.le_refl _) (by omega);unfold chOK at this;simp at this;omega) (by simp only [attr_Name.f];rw [if_neg hn,if_neg h1,if_pos (by omega),if_pos h2];exact bad 0)
 by_cases h3:bt s 0 > 122
 ·exact fls (fun h=>by have:=h.2.2 0 (Int.le_refl _) (by omega);unfold chOK at this;simp at this;omega) (by simp only [attr_Name.f];rw [if_neg hn,if_neg h1,if_pos (by omega),if_neg h2,decide_eq_true h3];exact bad 0)
 obtain ⟨b,hb,hi⟩:=name_l0 s hs s.size (s.size + 1) 0 (by omega) (by omega) (by omega) (by omega)
 refine ⟨b,Ev.of (fun k=>attr_Name.mono s k) (k:=s.size + 2) ?_,hi.trans ⟨fun h=>⟨by omega,by omega,fun j a1 a2=>?_⟩,fun h j a1 a2=>?_⟩⟩
 ·simp only [attr_Name.f]
  rw [if_neg hn,if_neg h1,if_pos (by omega),if_neg h2,decide_eq_false h3]
  simp only [attr_Name.j0]
  rw [if_neg (by decide)]
  exact hb
 ·rcases h j a1 a2 with h4 | ⟨_,h4⟩
  ·exact .inl h4
  ·by_cases hj:j = 0
   ·subst hj
    exact .inl (by omega)
   ·exact .inr ⟨hj,h4⟩
 ·rcases h.2.2 j a1 a2 with h4 | ⟨_,h4⟩
  ·exact .inl h4
  ·exact .inr ⟨id,h4⟩
theorem val_l0 (s:ByteArray) (hs:s.size ≤ 1099511627776) (d:Nat):∀ (k:Nat) (i:Int),0 ≤ i → i ≤ s.size → (s.size:Int) - i = d → d < k →
 ∃ b,attr_Value.l0 k s (s.size:Int) i = some b ∧ (b = true ↔ ∀ j:Int,i ≤ j → j < s.size → 32 ≤ bt s j ∧ bt s j ≤ 126):=by
 induction d with
 | zero =>
  intro k i h0 h1 hd hk
  obtain ⟨k,rfl⟩:∃ m,k = m + 1:=⟨k - 1,by omega⟩
  simp only [attr_Value.l0]
  rw [if_neg (by omega)]
  exact ⟨true,rfl,⟨fun _ j h2 h3=>by omega,fun _=>rfl⟩⟩
 | succ d ih =>
  intro k i h0 h1 hd hk
  obtain ⟨k,rfl⟩:∃ m,k = m + 1:=⟨k - 1,by omega⟩
  have hlt:i < (s.size:Int):=by omega
  by_cases hc:32 ≤ bt s i ∧ bt s i ≤ 126
  ·have e:attr_Value.l0 (k + 1) s (s.size:Int) i = attr_Value.l0 k s (s.size:Int) (i + 1):=by
    simp only [attr_Value.l0]
    rw [if_pos hlt,if_pos h0,if_pos hlt,wrap_up h0 (by omega),if_neg (by omega),if_neg (by omega)]
   obtain ⟨b,hb,hi⟩:=ih k (i + 1) (by omega) (by omega) (by omega) (by omega)
   refine ⟨b,e.trans hb,hi.trans ⟨fun h j h2 h3=>?_,fun h j h2 h3=>h j (by omega) h3⟩⟩
   rcases Int.lt_or_eq_of_le h2 with h4 | h4
   ·exact h j (by omega) h3
   ·subst h4;exact hc
  ·refine ⟨false,?_,⟨(fun h=>by cases h),(fun h=>absurd (h i (Int.le_refl _) hlt) hc)⟩⟩
   simp only [attr_Value.l0]
   rw [if_pos hlt,if_pos h0,if_pos hlt]
   repeat' (first | rfl | split)
   all_goals (exfalso;omega)
theorem val_ev (s:ByteArray) (hs:s.size ≤ 1099511627776):∃ b,Ev (fun k=>attr_Value.f k s) b ∧ (b = true ↔ ValOK s):=by
 have bad:∀ k,attr_Value.j0 (k + 1) s true = some false:=fun k=>by simp only [attr_Value.j0];rw [if_pos trivial]
 have fls:¬ ValOK s → attr_Value.f 1 s = some false → ∃ b,Ev (fun k=>attr_Value.f k s) b ∧ (b = true ↔ ValOK s):=fun h e=>⟨false,Ev.of (fun k=>attr_Value.mono s k) e,⟨(fun h=>by cases h),(fun h'=>absurd h' h)⟩⟩
 by_cases h0:s.size = 0
 ·exact fls (fun h=>by have:=h.1;omega) (by simp only [attr_Value.f];rw [if_pos (list_nil.2 h0)];exact bad 0)
 have hn:¬ s.toList = []:=fun h=>h0 (list_nil.1 h)
 by_cases h1:(s.size:Int) > 200
 ·exact fls (fun h=>by have:=h.2.1;omega) (by simp only [attr_Value.f];rw [if_neg hn,decide_eq_true h1];exact bad 0)
 obtain ⟨b,hb,hi⟩:=val_l0 s hs s.size (s.size + 1) 0 (by omega) (by omega) (by omega) (by omega)
 refine ⟨b,Ev.of (fun k=>attr_Value.mono s k) (k:=s.size + 2) ?_,hi.trans ⟨fun h=>⟨by omega,by omega,h⟩,fun h=>h.2.2⟩⟩
 simp only [attr_Value.f]
 rw [if_neg hn,decide_eq_false h1]
 simp only [attr_Value.j0]
 rw [if_neg (by decide)]
 exact hb
def CharOK (c:Int):Prop:=c = 9 ∨ c = 10 ∨ (32 ≤ c ∧ c ≤ 126) ∨ (160 ≤ c ∧ c ≤ 55295) ∨ (57344 ≤ c ∧ c ≤ 1114111)
instance (c:Int):Decidable (CharOK c):=by unfold CharOK;infer_instance
theorem within_ev (v hi:Int) (h1:0 ≤ hi) (h2:hi ≤ 1099511627776):∃ r,chanceryref1_Within.f v 0 hi = some r ∧ 0 ≤ r ∧ r ≤ hi:=by
 have wm:∀ {i:Int},0 ≤ i → i ≤ 4611686018427387904 → wrap64 i = i:=fun {i} a b=>by unfold wrap64;omega
 unfold chanceryref1_Within.f
 rw [show wrap64 (hi - 0) = hi - 0 from wm (by omega) (by omega),show wrap64 (hi - 0 + 1) = hi - 0 + 1 from wm (by omega) (by omega),if_neg (by omega)]
 obtain ⟨n,hn⟩:∃ n,n = hi - 0 + 1:=⟨_,rfl⟩
 rw [← hn]
 refine ⟨_,rfl,?_⟩
 have h3:-n < Int.tmod v n ∧ Int.tmod v n < n:=⟨Int.lt_tmod_of_pos v (by omega),Int.tmod_lt_of_pos v (by omega)⟩
 have h4:wrap64 (Int.tmod v n + n) = Int.tmod v n + n:=wm (by omega) (by omega)
 rw [h4]
 have h5:0 ≤ Int.tmod (Int.tmod v n + n) n:=Int.tmod_nonneg _ (by omega)
 have h6:Int.tmod (Int.tmod v n + n) n < n:=Int.tmod_lt_of_pos _ (by omega)
 rw [wm (by omega) (by omega)]
 omega
def mrg (E:S91 → S91 → Option S91):List S91 → List S91 → List S91
 | [],[]=>[]
 | x :: a,[]=>(E x nil91).toList ++ mrg E a []
 | [],y :: b=>(E nil91 y).toList ++ mrg E [] b
 | x :: a,y :: b=>if ltS x y = true then (E x nil91).toList ++ mrg E a (y :: b) else if ltS y x = true then (E nil91 y).toList ++ mrg E (x :: a) b else (E x y).toList ++ mrg E a b
termination_by a b=>a.length + b.length
theorem bothL_mrg (V:List S91 → S91 → S91 → List S91) (E:S91 → S91 → Option S91) (h:∀ o x y,V o x y = o ++ (E x y).toList):∀ (a b o:List S91),bothL V o a b = o ++ mrg E a b:=by
 intro a b
 induction a,b using mrg.induct with
 | case1=>intro o;rw [bothL,mrg,List.append_nil]
 | case2 x a ih=>intro o;rw [bothL,mrg,ih,h];exact List.append_assoc _ _ _
 | case3 y b ih=>intro o;rw [bothL,mrg,ih,h];exact List.append_assoc _ _ _
 | case4 x a y b hlt ih=>intro o;rw [bothL,mrg,if_pos hlt,if_pos hlt,ih,h];exact List.append_assoc _ _ _
 | case5 x a y b hlt hlt' ih=>intro o;rw [bothL,mrg,if_neg hlt,if_neg hlt,if_pos hlt',if_pos hlt',ih,h];exact List.append_assoc _ _ _
 | case6 x a y b hlt hlt' ih=>intro o;rw [bothL,mrg,if_neg hlt,if_neg hlt,if_neg hlt',if_neg hlt',ih,h];exact List.append_assoc _ _ _
theorem mrg_len (E:S91 → S91 → Option S91):∀ a b:List S91,(mrg E a b).length ≤ a.length + b.length:=by
 have o1:∀ o:Option S91,o.toList.length ≤ 1:=fun o=>by cases o <;> simp
 intro a b
 induction a,b using mrg.induct with
 | case1=>rw [mrg];simp
 | case2 x a ih=>rw [mrg,List.length_append];have:=o1 (E x nil91);simp only [List.length_cons,List.length_nil] at *;omega
 | case3 y b ih=>rw [mrg,List.length_append];have:=o1 (E nil91 y);simp only [List.length_cons,List.length_nil] at *;omega
 | case4 x a y b hlt ih=>rw [mrg,if_pos hlt,List.length_append];have:=o1 (E x nil91);simp only [List.length_cons,List.length_nil] at *;omega
 | case5 x a y b hlt hlt' ih=>rw [mrg,if_neg hlt,if_pos hlt',List.length_append];have:=o1 (E nil91 y);simp only [List.length_cons,List.length_nil] at *;omega
 | case6 x a y b hlt hlt' ih=>rw [mrg,if_neg hlt,if_neg hlt',List.length_append];have:=o1 (E x y);simp only [List.length_cons] at *;omega
def rawE (x y:S91):Option S91:=if y.f0.toList = [] then some x else if y.f1.toList = [] then none else some y
theorem fold_mrg {V:List S91 → S91 → S91 → List S91} {E:S91 → S91 → Option S91} (h:∀ o x y,V o x y = o ++ (E x y).toList) (a b:List S91):bothL V [] a b = mrg E a b:=by rw [bothL_mrg V E h,List.nil_append]
theorem rawV_E (o:List S91) (x y:S91):rawV o x y = o ++ (rawE x y).toList:=by
 unfold rawV rawE
 by_cases h1:y.f0.toList = []
 ·rw [if_pos h1,if_pos h1];rfl
 ·rw [if_neg h1,if_neg h1]
  by_cases h2:y.f1.toList = []
  ·rw [if_pos h2,if_pos h2];exact (List.append_nil _).symm
  ·rw [if_neg h2,if_neg h2];rfl
theorem raw_f {a b:List S91} (ha:a.length ≤ 1073741824) (hb:b.length ≤ 1073741824):attr_Raw.f a b = some (mrg rawE a b):=by
 unfold attr_Raw.f;rw [if_pos (by omega),fold_mrg rawV_E]
end Go.Proofs.Ytlcodfjlbhjkbaa.PDelta
end
section
namespace Go.Proofs.Ytlcodfjlbhjkbaa.PDelta
open Go.RowKit Go.Maps Go.Sort Go.Proofs.YtlcodfjlbhjkbaaW.PrintWords Go.Proofs.YtlcodfjlbhjkbaaW.PrintLast Go.Proofs.YtlcodfjlbhjkbaaW.PrintMore
theorem raw_f' {a b:List S91} (ha:a.length ≤ 1073741824) (hb:b.length ≤ 1073741824):∃ r,attr_Raw.f a b = some r ∧ r.length ≤ a.length + b.length:=⟨_,raw_f ha hb,mrg_len _ _ _⟩
inductive Dp (b:Brd):Int → Nat → Prop
 | stop {i:Int}:i ≤ 0 → Dp b i 0
 | gone {i:Int}:0 < i → b.it i = none → Dp b i 0
 | up {i:Int} {x:S87} {n:Nat}:0 < i → b.it i = some x → Dp b x.f1 n → Dp b i (n + 1)
theorem Dp.uniq {b:Brd} {i:Int} {n m:Nat} (h:Dp b i n) (h':Dp b i m):n = m:=by
 induction h generalizing m with
 | stop hi =>
  cases h' with
  | stop _=>rfl
  | gone _ _=>rfl
  | up h0 _ _=>omega
 | gone h0 hn =>
  cases h' with
  | stop _=>rfl
  | gone _ _=>rfl
  | up _ h1 _=>rw [hn] at h1;cases h1
 | up h0 hx _ ih =>
  cases h' with
  | stop _=>omega
  | gone _ h1=>rw [hx] at h1;cases h1
  | up _ h1 h2 =>
   rw [hx] at h1
   cases h1
   rw [ih h2]
theorem Dp.belowE {b:Brd} {i:Int} {n:Nat} (h:Dp b i n) (top:Int):∃ r,belowF (n + 1) b i top = some r:=by
 induction h with
 | stop hi=>exact ⟨false,by unfold belowF;rw [if_neg (by omega)]⟩
 | gone h0 hn =>
  unfold belowF
  rw [if_pos h0,hn]
  split
  ·exact ⟨_,rfl⟩
  ·exact ⟨_,rfl⟩
 | up h0 hx _ ih =>
  obtain ⟨r,hr⟩:=ih
  unfold belowF
  rw [if_pos h0,hx]
  split
  ·exact ⟨_,rfl⟩
  ·exact ⟨r,hr⟩
theorem below_mono (b:Brd) (top:Int):∀ (k:Nat) (i:Int) (r:Bool),belowF k b i top = some r → belowF (k + 1) b i top = some r
 | 0,i,r,h=>by cases h
 | k + 1,i,r,h=>by
  unfold belowF at h ⊢
  by_cases h0:0 < i
  ·rw [if_pos h0] at h ⊢
   by_cases h1:i = top
   ·rw [if_pos h1] at h ⊢;exact h
   ·rw [if_neg h1] at h ⊢
    cases hx:b.it i with
    | none=>rw [hx] at h;exact h
    | some x=>rw [hx] at h;exact below_mono b top k x.f1 r h
  ·rw [if_neg h0] at h ⊢;exact h
theorem below_le {b:Brd} {top i:Int} {k m:Nat} {r:Bool} (h:belowF k b i top = some r) (hm:k ≤ m):belowF m b i top = some r:=by
 induction hm with
 | refl=>exact h
 | step _ ih=>exact below_mono _ _ _ _ _ ih
theorem Dp.keep {b:Brd} {i:Int} {n:Nat} (h:Dp b i n) (x:S87):∀ k,belowF k b i x.f0 = some false → Dp (b.putIt x) i n:=by
 induction h with
 | stop hi=>intro k _;exact .stop hi
 | @gone i h0 hn =>
  intro k hk
  cases k with
  | zero=>cases hk
  | succ k =>
   unfold belowF at hk
   rw [if_pos h0] at hk
   by_cases h1:i = x.f0
   ·rw [if_pos h1] at hk;cases hk
   ·exact .gone h0 (by rw [it_putIt,if_neg h1];exact hn)
 | @up i y n h0 hy _ ih =>
  intro k hk
  cases k with
  | zero=>cases hk
  | succ k =>
   unfold belowF at hk
   rw [if_pos h0] at hk
   by_cases h1:i = x.f0
   ·rw [if_pos h1] at hk;cases hk
   ·rw [if_neg h1,hy] at hk
    exact .up h0 (by rw [it_putIt,if_neg h1];exact hy) (ih k hk)
theorem Dp.put {b:Brd} {x:S87} (hx:0 < x.f0) {m:Nat} (hp:Dp (b.putIt x) x.f1 m) {i:Int} {n:Nat} (h:Dp b i n):∃ n',Dp (b.putIt x) i n':=by
 induction h with
 | stop hi=>exact ⟨0,.stop hi⟩
 | @gone i h0 hn =>
  by_cases h1:i = x.f0
  ·exact ⟨m + 1,.up h0 (by rw [it_putIt,if_pos h1]) hp⟩
  ·exact ⟨0,.gone h0 (by rw [it_putIt,if_neg h1];exact hn)⟩
 | @up i y n h0 hy _ ih =>
  by_cases h1:i = x.f0
  ·exact ⟨m + 1,.up h0 (by rw [it_putIt,if_pos h1]) hp⟩
  ·obtain ⟨n',h'⟩:=ih
   exact ⟨n' + 1,.up h0 (by rw [it_putIt,if_neg h1];exact hy) h'⟩
theorem Dp.putAt {b:Brd} {j:Int} {v:List S91} {i:Int} {n:Nat} (h:Dp b i n):Dp (b.putAt j v) i n:=by
 induction h with
 | stop hi=>exact .stop hi
 | gone h0 hn=>exact .gone h0 hn
 | up h0 hy _ ih=>exact .up h0 hy ih
structure BOK (b:Brd):Prop where
 dp:∀ i,∃ n,Dp b i n
 nd:b.its.Pairwise (fun x y=>x.f0 ≠ y.f0)
 pos:∀ x ∈ b.its,0 < x.f0
 nil:∀ x ∈ b.its,x.f3 = []
theorem BOK.start:BOK ⟨[],[]⟩:=⟨fun i=>by
 by_cases h:i ≤ 0
 ·exact ⟨0,.stop h⟩
 ·exact ⟨0,.gone (by omega) rfl⟩,.nil,(fun x hx=>by cases hx),(fun x hx=>by cases hx)⟩
theorem BOK.putAt {b:Brd} (h:BOK b) (j:Int) (v:List S91):BOK (b.putAt j v):=⟨fun i=>by
 obtain ⟨n,hn⟩:=h.dp i
 exact ⟨n,hn.putAt⟩,h.nd,h.pos,h.nil⟩
theorem BOK.putIt {b:Brd} (h:BOK b) {x:S87} (hx:0 < x.f0) (h3:x.f3 = []) {k:Nat} (hb:belowF k b x.f1 x.f0 = some false):BOK (b.putIt x):=by
 refine ⟨fun i=>?_,?_,fun y hy=>?_,fun y hy=>?_⟩
 ·obtain ⟨m,hm⟩:=h.dp x.f1
  obtain ⟨n,hn⟩:=h.dp i
  exact Dp.put hx (hm.keep x k hb) hn
 ·unfold Brd.putIt
  rw [List.pairwise_append]
  refine ⟨h.nd.filter _,List.pairwise_singleton _ _,fun y hy z hz=>?_⟩
  obtain rfl:z = x:=by simpa using hz
  have:=(List.mem_filter.1 hy).2
  simpa using this
 ·rcases List.mem_append.1 hy with hy | hy
  ·exact h.pos y (List.mem_filter.1 hy).1
  ·obtain rfl:y = x:=by simpa using hy
   exact hx
 ·rcases List.mem_append.1 hy with hy | hy
  ·exact h.nil y (List.mem_filter.1 hy).1
  ·obtain rfl:y = x:=by simpa using hy
   exact h3
theorem BOK.it_of {b:Brd} (h:BOK b) {x:S87} (hx:x ∈ b.its):b.it x.f0 = some x:=by
 have hnd:=h.nd
 unfold Brd.it
 generalize b.its = l at hx hnd
 induction l with
 | nil=>cases hx
 | cons y r ih =>
  rw [List.pairwise_cons] at hnd
  rcases List.mem_cons.1 hx with rfl | hx
  ·simp
  ·rw [List.find?_cons]
   have:(y.f0 == x.f0) = false:=by simpa using hnd.1 x hx
   rw [this]
   exact ih hx hnd.2
theorem it_mem {b:Brd} {i:Int} {x:S87} (h:b.it i = some x):x ∈ b.its ∧ x.f0 = i:=⟨List.mem_of_find?_eq_some h,it_f0 h⟩
def treeF:Nat → Brd → Int → List S87
 | 0,_,_=>[]
 | k + 1,b,p=>(kidsF b p).flatMap fun x=>x :: treeF k b x.f0
inductive Up (b:Brd) (p:Int):Int → Nat → Prop
 | here:Up b p p 0
 | step {y:Int} {x:S87} {j:Nat}:0 < y → b.it y = some x → Up b p x.f1 j → Up b p y (j + 1)
theorem Up.dp {b:Brd} {p y:Int} {j n:Nat} (h:Up b p y j) (hp:Dp b p n):Dp b y (n + j):=by
 induction h with
 | here=>exact hp
 | step h0 hx _ ih=>exact .up h0 hx ih
theorem Up.uniq {b:Brd} {p q y:Int} {j:Nat} (h:Up b p y j) (h':Up b q y j):p = q:=by
 induction h with
 | here=>cases h';rfl
 | step h0 hx _ ih =>
  cases h' with
  | step _ h1 h2 =>
   rw [hx] at h1
   cases h1
   exact ih h2
theorem Up.trans {b:Brd} {p q y:Int} {j i:Nat} (h:Up b q y j) (h':Up b p q i):Up b p y (i + j):=by
 induction h with
 | here=>exact h'
 | step h0 hx _ ih=>exact .step h0 hx ih
theorem insB_mem {α:Type} (lt:α → α → Bool) (x:α) (l:List α):(insB lt x l).Perm (x :: l):=by
 induction l with
 | nil=>exact .refl _
 | cons y r ih =>
  unfold insB
  split
  ·exact (ih.cons y).trans (.swap _ _ _)
  ·exact .refl _
theorem sortB_perm {α:Type} (lt:α → α → Bool) (l:List α):(sortB lt l).Perm l:=by
 induction l with
 | nil=>exact .nil
 | cons x r ih=>exact (insB_mem lt x _).trans (ih.cons x)
theorem kids_perm (b:Brd) (p:Int):(kidsF b p).Perm (kidsL b p):=sortB_perm _ _
theorem kids_mem {b:Brd} {p:Int} {x:S87}:x ∈ kidsF b p ↔ x ∈ b.its ∧ x.f1 = p:=by
 rw [(kids_perm b p).mem_iff]
 unfold kidsL
 rw [List.mem_filter]
 simp
theorem tree_mem {b:Brd} (h:BOK b):∀ (k:Nat) (p:Int) (y:S87),y ∈ treeF k b p → y ∈ b.its ∧ ∃ j,Up b p y.f0 (j + 1)
 | 0,p,y,hy=>by cases hy
 | k + 1,p,y,hy=>by
  unfold treeF at hy
  obtain ⟨x,hx,hy1⟩:=List.mem_flatMap.1 hy
  clear hy
  obtain ⟨hxi,rfl⟩:=kids_mem.1 hx
  rcases List.mem_cons.1 hy1 with rfl | hy
  ·exact ⟨hxi,0,.step (h.pos _ hxi) (h.it_of hxi) .here⟩
  ·obtain ⟨h1,j,h2⟩:=tree_mem h k x.f0 y hy
   exact ⟨h1,j + 1,by have:=h2.trans (.step (h.pos _ hxi) (h.it_of hxi) .here);rwa [show j + 1 + 1 = 0 + 1 + (j + 1) by omega]⟩
theorem kids_apart {b:Brd} (h:BOK b) {p:Int} {x x':S87} (hx:x ∈ b.its) (hx':x' ∈ b.its) (e:x.f1 = p) (e':x'.f1 = p) {z:Int} {i j:Nat} (hi:Up b x.f0 z i) (hj:Up b x'.f0 z j):x.f0 = x'.f0:=by
 obtain ⟨n,hn⟩:=h.dp p
 have d:Dp b x.f0 (n + 1):=.up (h.pos x hx) (h.it_of hx) (by rw [e];exact hn)
 have d':Dp b x'.f0 (n + 1):=.up (h.pos x' hx') (h.it_of hx') (by rw [e'];exact hn)
 have:=(hi.dp d).uniq (hj.dp d')
 obtain rfl:i = j:=by omega
 exact hi.uniq hj
theorem Up.not_self {b:Brd} (h:BOK b) {p:Int} {j:Nat}:¬ Up b p p (j + 1):=fun hu=>by
 obtain ⟨n,hn⟩:=h.dp p
 have:=(hu.dp hn).uniq hn
 omega
theorem kids_nd {b:Brd} (h:BOK b) (p:Int):(kidsF b p).Pairwise (fun x y=>x.f0 ≠ y.f0):=by
 refine (kids_perm b p).symm.pairwise ?_ (fun h=>Ne.symm h)
 unfold kidsL
 exact h.nd.filter _
theorem tree_nd {b:Brd} (h:BOK b):∀ (k:Nat) (p:Int),(treeF k b p).Pairwise (fun x y=>x.f0 ≠ y.f0)
 | 0,p=>.nil
 | k + 1,p=>by
  unfold treeF
  rw [List.pairwise_flatMap]
  refine ⟨fun x hx=>?_,(kids_nd h p).imp_of_mem fun {x x'} hx hx' hne y hy z hz=>?_⟩
  ·rw [List.pairwise_cons]
   refine ⟨fun y hy e=>?_,tree_nd h k x.f0⟩
   obtain ⟨_,j,hu⟩:=tree_mem h k x.f0 y hy
   rw [← e] at hu
   exact hu.not_self h
  ·obtain ⟨hxi,ex⟩:=kids_mem.1 hx
   obtain ⟨hxi',ex'⟩:=kids_mem.1 hx'
   have up:∀ {x y:S87},y ∈ x :: treeF k b x.f0 → ∃ j,Up b x.f0 y.f0 j:=fun {x y} hy=>by
    rcases List.mem_cons.1 hy with rfl | hy
    ·exact ⟨0,.here⟩
    ·obtain ⟨_,j,hu⟩:=tree_mem h k x.f0 y hy
     exact ⟨_,hu⟩
   obtain ⟨i,hi⟩:=up hy
   obtain ⟨j,hj⟩:=up hz
   intro e
   rw [← e] at hj
   exact hne (kids_apart h hxi hxi' ex ex' hi hj)
theorem nd_le {α:Type} (f:α → Int):∀ (L M:List α),L.Pairwise (fun x y=>f x ≠ f y) → (∀ x ∈ L,x ∈ M) → L.length ≤ M.length
 | [],M,_,_=>Nat.zero_le _
 | x :: r,M,hp,hs=>by
  rw [List.pairwise_cons] at hp
  have h1:=nd_le f r (M.filter fun y=>f y != f x) hp.2 (fun y hy=>List.mem_filter.2 ⟨hs y (List.mem_cons_of_mem _ hy),by have:=hp.1 y hy;simpa using this.symm⟩)
  have h2:(M.filter fun y=>f y != f x).length < M.length:=List.length_filter_lt_length_iff_exists.2 ⟨x,hs x List.mem_cons_self,by simp⟩
  simp only [List.length_cons]
  omega
theorem Dp.chain {b:Brd} (h:BOK b) {i:Int} {n:Nat} (hd:Dp b i n):∃ L:List S87,L.length = n ∧ L.Pairwise (fun x y=>x.f0 ≠ y.f0) ∧ ∀ x ∈ L,x ∈ b.its ∧ ∃ m,m ≤ n ∧ 0 < m ∧ Dp b x.f0 m:=by
 induction hd with
 | stop _=>exact ⟨[],rfl,.nil,fun x hx=>by cases hx⟩
 | gone _ _=>exact ⟨[],rfl,.nil,fun x hx=>by cases hx⟩
 | @up i x n h0 hx hd ih =>
  obtain ⟨L,h1,h2,h3⟩:=ih
  have hu:Dp b x.f0 (n + 1):=by rw [(it_mem hx).2];exact .up h0 hx hd
  refine ⟨x :: L,by simp [h1],?_,fun y hy=>?_⟩
  ·rw [List.pairwise_cons]
   refine ⟨fun y hy e=>?_,h2⟩
   obtain ⟨_,m,hm,_,hd'⟩:=h3 y hy
   rw [← e] at hd'
   have:=hu.uniq hd'
   omega
  ·rcases List.mem_cons.1 hy with rfl | hy
   ·exact ⟨(it_mem hx).1,n + 1,Nat.le_refl _,by omega,hu⟩
   ·obtain ⟨h4,m,h5,h6,h7⟩:=h3 y hy
    exact ⟨h4,m,by omega,h6,h7⟩
theorem Dp.le {b:Brd} (h:BOK b) {i:Int} {n:Nat} (hd:Dp b i n):n ≤ b.its.length:=by
 obtain ⟨L,h1,h2,h3⟩:=hd.chain h
 rw [← h1]
 exact nd_le _ _ _ h2 (fun x hx=>(h3 x hx).1)
theorem tree_len {b:Brd} (h:BOK b) (k:Nat) (p:Int):(treeF k b p).length ≤ b.its.length:=nd_le _ _ _ (tree_nd h k p) (fun x hx=>(tree_mem h k p x hx).1)
theorem visit_tree {b:Brd} (h:BOK b):∀ (k:Nat) (p:Int) (n:Nat),Dp b p n → b.its.length < n + k → ∀ out:List S87,out.length + (treeF k b p).length ≤ 1073741824 → visitF k b p out = some (out ++ treeF k b p)
 | 0,p,n,hp,hk,out,_=>by have:=hp.le h;omega
 | k + 1,p,n,hp,hk,out,hl=>by
  unfold visitF
  unfold treeF at hl ⊢
  have hs:∀ x ∈ kidsF b p,x ∈ b.its ∧ x.f1 = p:=fun x hx=>kids_mem.1 hx
  generalize kidsF b p = L at hl hs
  induction L generalizing out with
  | nil=>simp
  | cons x r ih =>
   simp only [List.flatMap_cons,List.length_append,List.length_cons] at hl
   have hx:=hs x List.mem_cons_self
   simp only [List.foldlM_cons]
   rw [if_pos (by omega),visit_tree h k x.f0 (n + 1) (.up (h.pos x hx.1) (h.it_of hx.1) (by rw [hx.2];exact hp)) (by omega) _ (by rw [List.length_append,List.length_singleton];omega)]
   simp only [Option.bind_eq_bind,Option.bind_some]
   rw [ih (out ++ [x] ++ treeF k b x.f0) (by simp only [List.length_append,List.length_singleton];omega) (fun y hy=>hs y (List.mem_cons_of_mem _ hy))]
   simp
def shownL (b:Brd):List S87:=treeF (b.its.length + 1) b 0
def orderL (b:Brd):List S87:=shownL b ++ restF b (shownL b)
def fillF (b:Brd) (x:S87):S87:=⟨x.f0,x.f1,x.f2,b.atD x.f0⟩
theorem raw_some {b:Brd} (h:BOK b) (hl:b.its.length ≤ 1073741824):rawC (b.its.length + 1) b = some ((orderL b).map (fillF b)):=by
 unfold rawC
 have:=tree_len h (b.its.length + 1) 0
 rw [visit_tree h (b.its.length + 1) 0 0 (.stop (Int.le_refl _)) (by omega) [] (by simp only [List.length_nil];omega)]
 rfl
def lt2 (s t:ByteArray) (i j:Int):Bool:=decide (orI (cmpS s t) (cmpI i j) < 0)
theorem lt2_iff (s t:ByteArray) (i j:Int):lt2 s t i j = true ↔ Op.bytesLess s.toList t.toList = true ∨ (s.toList = t.toList ∧ i < j):=by
 unfold lt2 orI cmpS cmpI
 rw [decide_eq_true_iff]
 cases h1:Op.bytesLess s.toList t.toList with
 | true=>simp
 | false =>
  cases h2:Op.bytesLess t.toList s.toList with
  | true =>
   have:s.toList ≠ t.toList:=fun e=>by rw [e,Ord.less_irrefl] at h2;cases h2
   simp [this]
  | false =>
   have:=Ord.less_total h1 h2
   simp only [this,Bool.false_eq_true,if_false,if_true,true_and,false_or]
   by_cases h3:i < j
   ·simp [h3]
   ·rw [if_neg h3]
    split <;> simp [h3]
theorem lt2_irrefl (s:ByteArray) (i:Int):lt2 s s i i = false:=by
 rw [← Bool.not_eq_true,lt2_iff]
 rintro (h | ⟨_,h⟩)
 ·rw [Ord.less_irrefl] at h;cases h
 ·omega
theorem lt2_trans {s t u:ByteArray} {i j k:Int} (h:lt2 s t i j = true) (h':lt2 t u j k = true):lt2 s u i k = true:=by
 rw [lt2_iff] at *
 rcases h with h | ⟨e,h⟩
 ·rcases h' with h' | ⟨e',h'⟩
  ·exact .inl (Ord.less_trans h h')
  ·rw [← e'];exact .inl h
 ·rcases h' with h' | ⟨e',h'⟩
  ·rw [e];exact .inl h'
  ·exact .inr ⟨e.trans e',by omega⟩
theorem lt2_total {s t:ByteArray} {i j:Int} (h:lt2 s t i j = false) (h':lt2 t s j i = false):s.toList = t.toList ∧ i = j:=by
 rw [← Bool.not_eq_true,lt2_iff] at h h'
 have e:s.toList = t.toList:=Ord.less_total (by
  cases hq:Op.bytesLess s.toList t.toList with
  | true=>exact absurd (.inl hq) h
  | false=>rfl) (by
  cases hq:Op.bytesLess t.toList s.toList with
  | true=>exact absurd (.inl hq) h'
  | false=>rfl)
 refine ⟨e,?_⟩
 have h1:¬ i < j:=fun hl=>h (.inr ⟨e,hl⟩)
 have h2:¬ j < i:=fun hl=>h' (.inr ⟨e.symm,hl⟩)
 omega
theorem lt2_ntrans {s t u:ByteArray} {i j k:Int} (h:lt2 s t i j = false) (h':lt2 t u j k = false):lt2 s u i k = false:=by
 cases hq:lt2 s u i k with
 | false=>rfl
 | true =>
  cases h1:lt2 t s j i with
  | true=>rw [lt2_trans h1 hq] at h';cases h'
  | false =>
   obtain ⟨e,rfl⟩:=lt2_total h h1
   rw [← h',← hq]
   rw [Bool.eq_iff_iff,lt2_iff,lt2_iff,e]
theorem ltN_iff (x y:S87):ltN x y = true ↔ x.f0 < y.f0:=by
 unfold ltN cmpI
 rw [decide_eq_true_iff]
 by_cases h:x.f0 < y.f0
 ·simp [h]
 ·rw [if_neg h];split <;> simp [h]
theorem insB_sorted {α:Type} (lt:α → α → Bool) (hT:∀ x y z,lt x y = false → lt y z = false → lt x z = false) (hA:∀ x y,lt x y = true → lt y x = false) (x:α) (l:List α) (h:l.Pairwise (fun a b=>lt b a = false)):(insB lt x l).Pairwise (fun a b=>lt b a = false):=by
 induction l with
 | nil=>exact List.pairwise_singleton _ _
 | cons y r ih =>
  rw [List.pairwise_cons] at h
  unfold insB
  by_cases hy:lt y x = true
  ·rw [if_pos hy,List.pairwise_cons]
   refine ⟨fun z hz=>?_,ih h.2⟩
   rcases List.mem_cons.1 ((insB_mem lt x r).mem_iff.1 hz) with rfl | hz
   ·exact hA _ _ hy
   ·exact h.1 z hz
  ·rw [if_neg hy,List.pairwise_cons,List.pairwise_cons]
   have hy:lt y x = false:=by simpa using hy
   refine ⟨fun z hz=>?_,h⟩
   rcases List.mem_cons.1 hz with rfl | hz
   ·exact hy
   ·exact hT _ _ _ (h.1 z hz) hy
theorem sortB_sorted {α:Type} (lt:α → α → Bool) (hT:∀ x y z,lt x y = false → lt y z = false → lt x z = false) (hA:∀ x y,lt x y = true → lt y x = false) (l:List α):(sortB lt l).Pairwise (fun a b=>lt b a = false):=by
 induction l with
 | nil=>exact .nil
 | cons x r ih=>exact insB_sorted lt hT hA x _ ih
theorem ltP_nt (x y z:S87) (h:ltP x y = false) (h':ltP y z = false):ltP x z = false:=lt2_ntrans h h'
theorem ltP_as (x y:S87) (h:ltP x y = true):ltP y x = false:=by
 cases h':ltP y x with
 | false=>rfl
 | true =>
  have:=lt2_trans h h'
  rw [lt2_irrefl] at this
  cases this
theorem ltN_nt (x y z:S87) (h:ltN x y = false) (h':ltN y z = false):ltN x z = false:=by
 rw [← Bool.not_eq_true,ltN_iff] at *
 omega
theorem ltN_as (x y:S87) (h:ltN x y = true):ltN y x = false:=by
 rw [ltN_iff] at h
 rw [← Bool.not_eq_true,ltN_iff]
 omega
theorem kids_sorted (b:Brd) (p:Int):(kidsF b p).Pairwise (fun a b=>ltP b a = false):=sortB_sorted ltP ltP_nt ltP_as _
theorem sorted_one {α:Type} {lt:α → α → Bool} {L M:List α} (hp:L.Perm M) (hL:L.Pairwise (fun a b=>lt b a = false)) (hM:M.Pairwise (fun a b=>lt b a = false)) (hu:∀ x ∈ M,∀ y ∈ M,lt x y = false → lt y x = false → x = y):L = M :=
 hp.eq_of_pairwise (fun a b ha hb h1 h2=>hu a (hp.mem_iff.1 ha) b hb h2 h1) hL hM
theorem atD_putAt (b:Brd) (j:Int) (v:List S91) (i:Int):(b.putAt j v).atD i = if i = j then v else b.atD i:=by
 unfold Brd.atD
 rw [at_putAt]
 split <;> rfl
theorem putIt_len (b:Brd) (x:S87):(b.putIt x).its.length ≤ b.its.length + 1:=by
 unfold Brd.putIt
 simp only [List.length_append,List.length_singleton]
 have:=List.length_filter_le (fun y:S87=>y.f0 != x.f0) b.its
 omega
theorem play_mono (k:Nat):∀ (l:List S128) (b bE:Brd),playF k l b = some bE → playF (k + 1) l b = some bE
 | [],b,bE,h=>h
 | o :: l,b,bE,h=>by
  unfold playF at h ⊢
  by_cases h2:o.f2 = 1
  ·rw [if_pos h2] at h ⊢
   obtain ⟨r,hr,h⟩:=Option.bind_eq_some_iff.1 h
   rw [hr]
   exact play_mono k l _ _ h
  ·rw [if_neg h2] at h ⊢
   obtain ⟨t,ht,h⟩:=Option.bind_eq_some_iff.1 h
   rw [below_mono _ _ _ _ _ ht]
   simp only [Option.bind_some]
   cases t with
   | true=>rw [if_pos rfl] at h ⊢;exact play_mono k l _ _ h
   | false=>rw [if_neg (by decide)] at h ⊢;exact play_mono k l _ _ h
theorem play_le {l:List S128} {b bE:Brd} {k m:Nat} (h:playF k l b = some bE) (hm:k ≤ m):playF m l b = some bE:=by
 induction hm with
 | refl=>exact h
 | step _ ih=>exact play_mono _ _ _ _ ih
theorem play_some:∀ (l:List S128) (b:Brd) (n:Nat),(∀ o ∈ l,0 < o.f3) → BOK b → b.its.length ≤ n → (∀ i,(b.atD i).length ≤ n) → n + l.length ≤ 1073741824 →
 ∃ k bE,playF k l b = some bE ∧ BOK bE ∧ bE.its.length ≤ n + l.length ∧ ∀ i,(bE.atD i).length ≤ n + l.length
 | [],b,n,_,hb,h1,h2,_=>⟨0,b,rfl,hb,h1,h2⟩
 | o :: l,b,n,hl,hb,h1,h2,hn=>by
  simp only [List.length_cons] at hn ⊢
  have hl':∀ o ∈ l,0 < o.f3:=fun x hx=>hl x (List.mem_cons_of_mem _ hx)
  by_cases hk:o.f2 = 1
  ·obtain ⟨r,hr,hrl⟩:=raw_f' (a:=b.atD o.f3) (b:=[⟨o.f6,o.f7⟩]) (by have:=h2 o.f3;omega) (by simp)
   obtain ⟨k,bE,h3,h4,h5,h6⟩:=play_some l (b.putAt o.f3 r) (n + 1) hl' (hb.putAt _ _) (by show b.its.length ≤ n + 1;omega) (fun i=>by
    rw [atD_putAt]
    split
    ·have:=h2 o.f3;simp only [List.length_singleton] at hrl;omega
    ·have:=h2 i;omega) (by omega)
   exact ⟨k,bE,by unfold playF;rw [if_pos hk,hr];exact h3,h4,by omega,fun i=>by have:=h6 i;omega⟩
  ·obtain ⟨d,hd⟩:=hb.dp o.f4
   obtain ⟨t,ht⟩:=hd.belowE o.f3
   cases t with
   | true =>
    obtain ⟨k,bE,h3,h4,h5,h6⟩:=play_some l b n hl' hb h1 h2 (by omega)
    refine ⟨max k (d + 1),bE,?_,h4,by omega,fun i=>by have:=h6 i;omega⟩
    unfold playF
    rw [if_neg hk,below_le ht (Nat.le_max_right _ _)]
    simp only [Option.bind_some,if_true]
    exact play_le h3 (Nat.le_max_left _ _)
   | false =>
    have hlen:=putIt_len b ⟨o.f3,o.f4,o.f5,[]⟩
    obtain ⟨k,bE,h3,h4,h5,h6⟩:=play_some l (b.putIt ⟨o.f3,o.f4,o.f5,[]⟩) (n + 1) hl' (hb.putIt (hl o List.mem_cons_self) rfl ht) (by omega) (fun i=>by
     show (b.atD i).length ≤ n + 1
     have:=h2 i;omega) (by omega)
    refine ⟨max k (d + 1),bE,?_,h4,by omega,fun i=>by have:=h6 i;omega⟩
    unfold playF
    rw [if_neg hk,below_le ht (Nat.le_max_right _ _)]
    simp only [Option.bind_some,Bool.false_eq_true,if_false]
    exact play_le h3 (Nat.le_max_left _ _)
theorem items_some (l:List S128) (hl:∀ o ∈ l,0 < o.f3) (hn:l.length ≤ 1073741824):∃ k bE,playF k l ⟨[],[]⟩ = some bE ∧ BOK bE ∧ bE.its.length ≤ l.length ∧ (∀ i,(bE.atD i).length ≤ l.length) ∧ rawC (bE.its.length + 1) bE = some ((orderL bE).map (fillF bE)):=by
 obtain ⟨k,bE,h1,h2,h3,h4⟩:=play_some l ⟨[],[]⟩ 0 hl .start (Nat.le_refl _) (fun i=>Nat.le_refl _) (by omega)
 simp only [Nat.zero_add] at h3 h4
 exact ⟨k,bE,h1,h2,h3,h4,raw_some h2 (by omega)⟩
structure FrA (lo:Nat) (w w':World):Prop where
 bel:Below lo w w'
 at91:∀ (k:Nat) cells,w.heap[k]? = some (Obj.cells cells 91 (0,0)) → w'.heap[k]? = w.heap[k]?
theorem FrA.refl (lo:Nat) (w:World):FrA lo w w:=⟨Below.refl _ _,fun _ _ _=>rfl⟩
theorem FrA.trans {lo:Nat} {a b c:World} (h:FrA lo a b) (k:FrA lo b c):FrA lo a c:=⟨h.bel.trans k.bel,fun i cells hi=>(k.at91 i cells ((h.at91 i cells hi).trans hi)).trans (h.at91 i cells hi)⟩
theorem FrA.below {lo:Nat} {a b c:World} (h:FrA lo a b) (hlo:lo ≤ b.heap.size) (k:Below b.heap.size b c):FrA lo a c:=h.trans ⟨k.mono hlo,fun i cells hi=>k.block i (blk_lt hi)⟩
theorem FrA.grown {lo:Nat} {a b c:World} {row:Option Nat} (h:FrA lo a b) (k:b.grownBy c row) (hlo:lo ≤ b.heap.size) (h1:∀ i,row = some i → lo ≤ i ∧ ∀ cells,b.heap[i]? ≠ some (Obj.cells cells 91 (0,0))):FrA lo a c:=by
 refine h.trans ⟨(Below.refl lo b).grown k hlo (fun i hi=>(h1 i hi).1),fun i cells hi=>k.block i (blk_lt hi) (fun e=>(h1 i e.symm).2 cells hi)⟩
theorem FrA.set {lo:Nat} {a b:World} {g o:Nat} {c:Array Value} {t:TypeId} {fr:Nat × Nat} (h:FrA lo a b) (hg:b.heap[g]? = some (.cells c t fr)) (ht:t ≠ 91) (hlo:lo ≤ g) (u:Value):FrA lo a (b.setCell ⟨g,o,none⟩ u):=by
 refine h.trans ⟨(Below.refl lo b).setCell hlo _,fun i cells hi=>Below.heap_setCell b ⟨g,o,none⟩ u i (fun e=>?_)⟩
 simp only at e
 subst e
 rw [hg] at hi
 injection hi with hi
 injection hi with _ hi
 exact ht hi
theorem RowIs.fr {w:World} {base:Nat} {v:Value} {xs:List It4} (h:RowIs w base v xs) {lo:Nat} (hlo:lo ≤ base):∀ i,v.ownBlock = some i → lo ≤ i ∧ ∀ cells,w.heap[i]? ≠ some (Obj.cells cells 91 (0,0)):=by
 intro i hi
 obtain ⟨h1,_,cur,hc⟩:=h.cells hi
 refine ⟨Nat.le_trans hlo h1,fun cells e=>?_⟩
 rw [hc] at e
 injection e with e
 injection e with _ e
 exact absurd e (by decide)
theorem map_fr {w:World} {m:Nat} {es:Array MapEntry} {c lo:Nat} (h:w.heap[m]? = some (.map es c)) (hlo:lo ≤ m):∀ i,some m = some i → lo ≤ i ∧ ∀ cells,w.heap[i]? ≠ some (Obj.cells cells 91 (0,0)):=by
 intro i hi
 cases hi
 exact ⟨hlo,fun cells e=>by rw [h] at e;cases e⟩
theorem RowIs.at {w:World} {base n c:Nat} {A:Option Addr} {L:List It4} (h:RowIs w base (.slice A n c) L) (i:Nat) (hi:i < L.length):∃ ad,A = some ad ∧ w.cell? (ad.add (i * 4)) = some (.int .i64 (L[i]'hi).i) ∧ w.cell? ⟨(ad.add (i * 4)).block,(ad.add (i * 4)).off + 1,none⟩ = some (.int .i64 (L[i]'hi).p) ∧ w.cell? ⟨(ad.add (i * 4)).block,(ad.add (i * 4)).off + 2,none⟩ = some (.string (L[i]'hi).s) ∧ w.cell? ⟨(ad.add (i * 4)).block,(ad.add (i * 4)).off + 3,none⟩ = some (.slice (L[i]'hi).A (L[i]'hi).n (L[i]'hi).c):=by
 rcases h.2 with ⟨h0,h1⟩ | ⟨g,cap,cur,e,hb,hh,h1,h2,h3,h4⟩
 ·omega
 ·injection e with e1 e2 e3
  subst e1 e2 e3
  have hc:=World.ownsRow.cells h (g:=g) rfl
  have hf:∀ j,j < 4 → (L.flatMap enc4)[i * 4 + j]? = some ((enc4 (L[i]'hi))[j]!):=fun j hj=>by
   rw [flat_get L (i * 4 + j) (by omega)]
   have e1:(i * 4 + j) / 4 = i:=by omega
   have e2:(i * 4 + j) % 4 = j:=by omega
   rw [e1,e2,getElem!_pos L i hi]
  have key:∀ j,j < 4 → w.cell? ((⟨g,0,none⟩:Addr).add (i * 4 + j)) = some ((enc4 (L[i]'hi))[j]!):=fun j hj=>hc (i * 4 + j) _ (hf j hj)
  exact ⟨⟨g,0,none⟩,rfl,key 0 (by omega),by rw [← add_field _ _ 1 (by omega)];exact key 1 (by omega),by rw [← add_field _ _ 2 (by omega)];exact key 2 (by omega),by rw [← add_field _ _ 3 (by omega)];exact key 3 (by omega)⟩
theorem swoP:SWO (ltOf cmpP):=⟨fun x=>lt2_irrefl x.s x.i,fun x y z h k=>lt2_trans (s:=x.s) (t:=y.s) (u:=z.s) h k,fun x y z h k=>lt2_ntrans (s:=x.s) (t:=y.s) (u:=z.s) h k⟩
theorem cmpI_lt (a b:Int):decide (cmpI a b < 0) = decide (a < b):=by
 unfold cmpI
 by_cases h:a < b
 ·simp [h]
 ·rw [if_neg h];split <;> simp [h]
theorem swoN:SWO (ltOf cmpN):=by
 have e:ltOf cmpN = fun x y=>decide (x.i < y.i):=by
  funext x y
  exact cmpI_lt x.i y.i
 rw [e]
 refine ⟨fun x=>?_,fun x y z h k=>?_,fun x y z h k=>?_⟩
 ·exact decide_eq_false (by omega)
 ·have h:=of_decide_eq_true h
  have k:=of_decide_eq_true k
  exact decide_eq_true (by omega)
 ·have h:=of_decide_eq_false h
  have k:=of_decide_eq_false k
  exact decide_eq_false (by omega)
theorem sorted_kids {b:Brd} (hB:BOK b) (sl:Int → Option Addr × Nat × Nat) {p:Int} {L0:List S87} {L1:List It4} (h0:L0.Perm (kidsL b p)) (h1:L1.Perm (L0.map (mk4 sl))) (hs:L1.Pairwise (fun x y=>ltOf cmpP y x = false)):L1 = (kidsF b p).map (mk4 sl):=by
 have hm:=(h0.trans (kids_perm b p).symm).map (mk4 sl)
 refine sorted_one (lt:=ltOf cmpP) (h1.trans hm) hs ?_ ?_
 ·rw [List.pairwise_map]
  exact kids_sorted b p
 ·intro x hx y hy e1 e2
  obtain ⟨x',hx',rfl⟩:=List.mem_map.1 hx
  obtain ⟨y',hy',rfl⟩:=List.mem_map.1 hy
  have h3:=(lt2_total (s:=x'.f2) (t:=y'.f2) (i:=x'.f0) (j:=y'.f0) e1 e2).2
  have h4:=hB.it_of (kids_mem.1 hx').1
  rw [h3,hB.it_of (kids_mem.1 hy').1] at h4
  cases h4
  rfl
theorem rowSnoc {w:World} {base:Nat} {vn:Value} {out:List S87} {sl:Int → Option Addr × Nat × Nat} {x:S87} {A:Option Addr} {n c:Nat} (hs:mk4 sl x = ⟨x.f0,x.f1,x.f2,A,n,c⟩) (h:w.ownsRow base 87 4 vn ((out.map (mk4 sl)).length + 1) ((out.map (mk4 sl)).flatMap enc4 ++ [.int .i64 x.f0,.int .i64 x.f1,.string x.f2,.slice A n c])):RowIs w base vn ((out ++ [x]).map (mk4 sl)):=by
 unfold RowIs
 rw [List.map_append,List.flatMap_append,List.length_append,List.map_cons,List.map_nil,hs]
 exact h
theorem zero70 (w:World):(zeroValue 70).run Try.prog w = .ok (.slice none 0 0) w:=by kernel_rfl
theorem info87i:(Try.prog.info? 87).map (fun i=>(i.zero,i.size,i.bytes)) = some (some (.agg #[.int .i64 0,.int .i64 0,.string ⟨#[]⟩,.slice none 0 0]),4,56):=by kernel_rfl
def WalkE (base K Kb Ob Sb Wb Sm nk lo:Nat) (gm:Int → Option Value) (sl:Int → Option Addr × Nat × Nat) (b:Brd) (va:Value) (D:List S87) (done:Int → Prop) (w:World) (out:List S87) (e:Ending) (w':World):Prop :=
 e = .returned (.tuple #[]) ∧ ∃ (done':Int → Prop) (vo:Value) (gs:Int → Option Value),(∀ q,done q → done' q) ∧ WalkS base K Kb Ob Sb Wb Sm nk gm sl b va D done' w' vo out gs ∧ FrA lo w w'
section
variable {base K Kb Ob Sb Wb Sm nk lo:Nat} {gm:Int → Option Value} {sl:Int → Option Addr × Nat × Nat} {b:Brd} {va:Value} {D:List S87}
set_option maxRecDepth 100000 in
set_option maxHeartbeats 4000000 in
theorem walk_calls (hlo:lo ≤ base) (hB:BOK b) (hWf:∀ x ∈ b.its,(Lit.int .i64 x.f0).wf = true) (k:Nat):∀ (p:Int) (out out':List S87) (w:World) (done:Int → Prop) (vo:Value) (gs:Int → Option Value),(Lit.int .i64 p).wf = true → lo ≤ w.heap.size → b.its.length ≤ 1073741824 →
 WalkS base K Kb Ob Sb Wb Sm nk gm sl b va D done w vo out gs → visitF k b p out = some out' →
 Calls Try.prog 108 #[.int .i64 p,.pointer (some ⟨Kb,0,none⟩),.pointer (some ⟨Ob,0,none⟩),.pointer (some ⟨Sb,0,none⟩),.pointer (some ⟨Wb,0,none⟩)] w (WalkE base K Kb Ob Sb Wb Sm nk lo gm sl b va D done w out'):=by
 have HBK:=Aside0.mk hB
 have HWF:=Aside0.mk hWf
 have HLO:=Aside0.mk hlo
 clear hB hWf hlo
 induction k with
 | zero=>intro p out out' w done vo gs _ _ _ _ h;cases h
 | succ k ih =>
  intro p out out' w done vo gs hp hws hbl hW hv
  have HIH:=Aside0.mk ih
  obtain ⟨L0,hL0,_,hr0⟩:=hW.kids p
  have hlen:L0.length = (kidsF b p).length:=(hL0.trans (kids_perm b p).symm).length_eq
  obtain ⟨A,c,hvs,hc⟩:=hr0.slice
  rw [List.length_map,hlen] at hvs hc
  have hkl:(kidsF b p).length ≤ 1073741824:=by
   have h1:=(kids_perm b p).length_eq
   have h2:(kidsL b p).length ≤ b.its.length:=List.length_filter_le _ _
   omega
  obtain ⟨n,hn⟩:∃ n,n = (kidsF b p).length:=⟨_,rfl⟩
  rw [← hn] at hvs hc
  rw [hvs] at hr0
  have HE:=Aside0.mk hvs
  have HS:Aside0 (Calls Try.prog 109 #[.slice A n c,.func (.func 110) #[] #[]] w fun e w'=>e = .returned (.tuple #[]) ∧ WalkS base K Kb Ob Sb Wb Sm nk gm sl b va D (fun q=>done q ∨ q = p) w' vo out gs ∧ FrA lo w w'):=by
   refine ⟨(sort_calls 110 cmpP swoP (enters_of Try.func110 (by kernel_rfl) rfl) cmpp_calls _ base _ w hr0 (by rw [List.length_map,hlen];omega)).mono ?_⟩
   rintro e w' ⟨rfl,L1,h1,h2,h3,h4⟩
   obtain rfl:=sorted_kids HBK.out sl hL0 h1 h2
   rw [← hvs] at h3 h4
   refine ⟨rfl,hW.sorted p h4 h3 (kids_perm b p),(FrA.refl lo w).grown h4 hws ?_⟩
   rw [hvs]
   exact hr0.fr HLO.out
  have HW:=Aside0.mk hW
  have HBL:=Aside0.mk hbl
  have HP:=Aside0.mk hp
  have HWS:=Aside0.mk hws
  have HN:Aside0 (n = (kidsF b p).length ∧ n ≤ c ∧ n ≤ 1073741824):=⟨hn,hc,by omega⟩
  have HV:Aside0 ((kidsF b p).foldlM (fun o x=>if o.length ≤ 1073741824 then visitF k b x.f0 (o ++ [x]) else none) out = some out'):=⟨by unfold visitF at hv;exact hv⟩
  have ckb:w.cell? ⟨Kb,0,none⟩ = some (.map (some K)):=(blk_cell hW.kb 0).trans rfl
  clear hL0 hr0 hlen hvs hc hkl hn hW hp hws hv hbl ih
  go_enter Try.func108,Try.ntmps108
  go_upto_region 1 with (first | (at_lookup;refine wp_look _ rfl _ _ 179 70 rfl Try.underlying179 _ (zero70 _) K nk gm rfl HW.out.mK p rfl HP.out _ HE.out ?_) | (go_at_call 109;(with_reducible refine HS.out.mono ?_);rintro e1 w1 ⟨rfl,hW1,hF1⟩;have HW1:=Aside0.mk hW1;have HF1:=Aside0.mk hF1;have ckb1:w1.cell? ⟨Kb,0,none⟩ = some (.map (some K)):=(blk_cell hW1.kb 0).trans rfl;clear hW1 hF1))
  go_wp2_with (at_lookup;refine wp_look _ rfl _ _ 179 70 rfl Try.underlying179 _ (zero70 _) K nk gm rfl HW1.out.mK p rfl HP.out _ HE.out ?_)
  clear ckb ckb1
  go_loopg [16] n (fun m v16 wr=>∃ (i:Nat) (done1:Int → Prop) (out1:List S87) (vo1:Value) (gs1:Int → Option Value),v16 = .int .i64 (i:Int) ∧ Aside0 (m + i = n) ∧ Aside0 (((kidsF b p).drop i).foldlM (fun o x=>if o.length ≤ 1073741824 then visitF k b x.f0 (o ++ [x]) else none) out1 = some out') ∧ Aside0 (∀ q,(done q ∨ q = p) → done1 q) ∧ Aside0 (WalkS base K Kb Ob Sb Wb Sm nk gm sl b va D done1 wr vo1 out1 gs1) ∧ Aside0 (FrA lo w wr))
  case atStart=>exact ⟨0,_,_,_,_,rfl,⟨rfl⟩,HV,⟨fun q h=>h⟩,HW1,HF1⟩
  case round =>
   obtain ⟨i,done1,out1,vo1,gs1,rfl,HI,HV1,HD1,HW2,HF2⟩:=hrel
   clear HV HW1 HF1 HS HW
   by_cases d1:i < n
   rotate_left
   ·have g1:decide ((i:Int) < (n:Int)) = false:=decide_eq_false (by omega)
    have g1':decide (i < n) = false:=decide_eq_false d1
    have HX:Aside0 (out1 = out'):=⟨by have h1:=HV1.out;rw [List.drop_eq_nil_of_le (by have:=HN.out.1;omega)] at h1;exact Option.some.inj h1⟩
    clear d1
    go_wp2
    go_end0
    exact ⟨rfl,done1,vo1,gs1,fun q h=>HD1.out q (.inl h),by rw [← HX.out];exact HW2.out,HF2.out⟩
   have g1:decide ((i:Int) < (n:Int)) = true:=decide_eq_true (by omega)
   have g1':decide (i < n) = true:=decide_eq_true d1
   have q1:(i:Int) < (n:Int):=by omega
   obtain ⟨gl,rfl⟩:∃ gl,gk = gl + 1:=⟨gk - 1,by have:=HI.out;omega⟩
   have hil:i < (kidsF b p).length:=by have:=HN.out.1;omega
   obtain ⟨x,hx⟩:∃ x,x = (kidsF b p)[i]'hil:=⟨_,rfl⟩
   have HXM:=Aside0.mk (kids_mem.1 (hx ▸ List.getElem_mem hil))
   have hv1:=HV1.out
   rw [List.drop_eq_getElem_cons hil,← hx,List.foldlM_cons] at hv1
   obtain ⟨out2,ho2,hv2⟩:=Option.bind_eq_some_iff.1 hv1
   have hol:out1.length ≤ 1073741824:=by
    by_cases h:out1.length ≤ 1073741824
    ·exact h
    ·rw [if_neg h] at ho2;cases ho2
   rw [if_pos hol] at ho2
   have HO2:=Aside0.mk ho2
   have HV2:=Aside0.mk hv2
   have HOL:=Aside0.mk hol
   obtain ⟨L,hL,hLd,hLr⟩:=HW2.out.kids p
   obtain rfl:=hLd (HD1.out p (.inr rfl))
   rw [HE.out] at hLr
   obtain ⟨ad,eA,x0,x1,x2,x3⟩:=hLr.at i (by rw [List.length_map];exact hil)
   subst eA
   have hxe:((kidsF b p).map (mk4 sl))[i]'(by rw [List.length_map];exact hil) = mk4 sl x:=by rw [List.getElem_map,← hx]
   rw [hxe] at x0 x1 x2 x3
   replace x0:wr.cell? (ad.add (i * 4)) = some (.int .i64 x.f0):=x0
   replace x1:wr.cell? ⟨(ad.add (i * 4)).block,(ad.add (i * 4)).off + 1,none⟩ = some (.int .i64 x.f1):=x1
   replace x2:wr.cell? ⟨(ad.add (i * 4)).block,(ad.add (i * 4)).off + 2,none⟩ = some (.string x.f2):=x2
   obtain ⟨SA,hSA⟩:∃ S,S = (mk4 sl x).A:=⟨_,rfl⟩
   obtain ⟨Sn,hSn⟩:∃ S,S = (mk4 sl x).n:=⟨_,rfl⟩
   obtain ⟨Sc,hSc⟩:∃ S,S = (mk4 sl x).c:=⟨_,rfl⟩
   have HSL:Aside0 (mk4 sl x = ⟨x.f0,x.f1,x.f2,SA,Sn,Sc⟩):=⟨by rw [hSA,hSn,hSc];rfl⟩
   rw [← hSA,← hSn,← hSc] at x3
   clear hx hv1 ho2 hv2 hol hL hLd hLr hxe hSA hSn hSc HV1 hil
   go_upto_region 4 with (fail)
   obtain ⟨w2,hw2⟩:∃ W,W = wr.alloc (Obj.cells #[.int .i64 x.f0,.int .i64 x.f1,.string x.f2,.slice SA Sn Sc] 87):=⟨_,rfl⟩
   obtain ⟨g,hgn⟩:∃ g,g = wr.heap.size:=⟨_,rfl⟩
   have HLW:Aside0 (lo ≤ w2.drew.heap.size):=⟨by rw [hw2];have:=HF2.out.bel.size;have:=HWS.out;simp;omega⟩
   have HG1:Aside0 (w2.drew.heap[g]? = some (.cells #[.int .i64 x.f0,.int .i64 x.f1,.string x.f2,.slice SA Sn Sc] 87 (0,0))):=⟨by rw [hw2,hgn];exact blk_drew (blk_new wr _)⟩
   have HW3:Aside0 (WalkS base K Kb Ob Sb Wb Sm nk gm sl b va D done1 w2.drew vo1 out1 gs1):=⟨by rw [hw2];exact HW2.out.below (below_drew (below_alloc (Below.refl _ _) _))⟩
   have HF3:Aside0 (FrA lo w w2.drew):=⟨by rw [hw2];exact HF2.out.below (Nat.le_trans HWS.out HF2.out.bel.size) (below_drew (below_alloc (Below.refl _ _) _))⟩
   have HNG:Aside0 (vo1.ownBlock ≠ some g):=⟨fun e=>by have:=(HW2.out.ro.cells e).2.1;omega⟩
   have HBW:Aside0 (base ≤ w2.drew.heap.size):=⟨by have:=HW3.out.lO;have:=blk_lt HW3.out.ob;omega⟩
   rw [← hw2,← hgn]
   clear hw2 hgn HW2 HF2 x0 x1 x2 x3
   refine start_ (n:=9) (S:=fun w'=>w'.cell? ⟨Sb,0,none⟩ = some (.map (some Sm)) ∧ w'.cell? ⟨g,0,none⟩ = some (.int .i64 x.f0) ∧ w'.cell? ⟨g,1,none⟩ = some (.int .i64 x.f1) ∧ w'.cell? ⟨g,2,none⟩ = some (.string x.f2) ∧ w'.cell? ⟨g,3,none⟩ = some (.slice SA Sn Sc)) (ds:=[8]) #[false,false,false,false,false,false,false,false,false] (by kernel_rfl) rfl rfl ⟨((blk_cell HW3.out.sb 0).trans rfl),((blk_cell HG1.out 0).trans rfl),((blk_cell HG1.out 1).trans rfl),((blk_cell HG1.out 2).trans rfl),((blk_cell HG1.out 3).trans rfl)⟩ (fun hHeld=>?_)
   refine pure_ (i:=1) (N:=some 21) (v:=?_) (a':=?_) (bm 2 9) rfl rfl (by kernel_rfl) (fun _ _ _ h=>h) (Or.inl ⟨by rfl,?_⟩) ?_ ?_
   rotate_left
   ·intro w'
    go_simp
    with_reducible rfl
   rotate_left
   ·simp only [Act.put,sA,sB,sC,i64_w,i32_w]
    rfl
   refine take_ (i:=0) (N:=some 20) (v:=?_) (a':=?_) (bm 3 9) rfl rfl (by kernel_rfl) (fun _ _ _ h=>h) (Or.inl ⟨by rfl,?_⟩) hHeld ?_ ?_
   rotate_left
   ·rintro w' ⟨s0,s1,s2,s3,s4⟩
    go_simp
    with_reducible rfl
   rotate_left
   ·simp only [Act.put,sA,sB,sC,i64_w,i32_w]
    rfl
   refine take_ (i:=2) (N:=some 22) (v:=?_) (a':=?_) (bm 7 9) rfl rfl (by kernel_rfl) (fun _ _ _ h=>h) (Or.inl ⟨by rfl,?_⟩) hHeld ?_ ?_
   rotate_left
   ·rintro w' ⟨s0,s1,s2,s3,s4⟩
    go_simp
    with_reducible rfl
   rotate_left
   ·simp only [Act.put,sA,sB,sC,i64_w,i32_w]
    rfl
   refine take_ (i:=4) (N:=some 24) (v:=?_) (a':=?_) (bm 23 9) rfl rfl (by kernel_rfl) (fun _ _ _ h=>h) (Or.inl ⟨by rfl,?_⟩) hHeld ?_ ?_
   rotate_left
   ·rintro w' ⟨s0,s1,s2,s3,s4⟩
    go_simp
    with_reducible rfl
   rotate_left
   ·simp only [Act.put,sA,sB,sC,i64_w,i32_w]
    rfl
   refine join_ (σ:=Unit) 3 (bm 63 9) (fun _=>[(23,vo1),(25,.slice (some ⟨w2.heap.size,0,none⟩) 1 1)]) (fun _ w'=>w' = (w2.drew.alloc (Obj.cells #[.int .i64 x.f0,.int .i64 x.f1,.string x.f2,.slice SA Sn Sc] 87))) ?_ ?_
   rotate_left
   ·intro hCont
    refine two_ (i:=3) (j:=5) (Ni:=some 23) (Nj:=some 25) (bm 31 9) (bm 55 9) rfl rfl rfl rfl (by kernel_rfl) (by decide) (by decide) (fun K hK=>?_) (fun K hK=>?_)
    ·skip
     have cob:w2.drew.cell? ⟨Ob,0,none⟩ = some vo1:=(blk_cell HW3.out.ob 0).trans rfl
     refine value_ (w1:=?_) (v:=?_) (by rfl) rfl ?_ ?_
     rotate_left 2
     ·go_simp
      constructor
      ·rfl
      ·rfl
     clear cob
     refine hK.out _ _ ⟨((blk_cell HW3.out.sb 0).trans rfl),((blk_cell HG1.out 0).trans rfl),((blk_cell HG1.out 1).trans rfl),((blk_cell HG1.out 2).trans rfl),((blk_cell HG1.out 3).trans rfl)⟩ (fun hHeld=>?_)
     clear hK K
     refine norm_ (a':=?_) ?_ ?_
     rotate_left
     ·show Act.put _ (some 23) _ = _
      simp only [Act.put,sA,sB,sC,i64_w,i32_w]
      rfl
     refine one_ (i:=5) (N:=some 25) (bm 63 9) rfl rfl (by kernel_rfl) (by decide) (fun K hK=>?_)
     refine value_ (w1:=?_) (v:=?_) (by rfl) rfl ?_ ?_
     rotate_left 2
     ·go_simp
      constructor
      ·rfl
      ·rfl
     refine hK.out _ _ ⟨((blk_cell (HW3.out.below (below_alloc (Below.refl _ _) _)).sb 0).trans rfl),((blk_cell (blk_alloc HG1.out _) 0).trans rfl),((blk_cell (blk_alloc HG1.out _) 1).trans rfl),((blk_cell (blk_alloc HG1.out _) 2).trans rfl),((blk_cell (blk_alloc HG1.out _) 3).trans rfl)⟩ (fun hHeld=>?_)
     clear hK K
     refine norm_ (a':=?_) ?_ ?_
     rotate_left
     ·show Act.put _ (some 25) _ = _
      simp only [Act.put,sA,sB,sC,i64_w,i32_w]
      rfl
     exact norm_ (by simp only [putAll,Act.put,sA,sB,sC]) (hCont () _ rfl)
    ·skip
     refine value_ (w1:=?_) (v:=?_) (by rfl) rfl ?_ ?_
     rotate_left 2
     ·go_simp
      constructor
      ·rfl
      ·rfl
     refine hK.out _ _ ⟨((blk_cell (HW3.out.below (below_alloc (Below.refl _ _) _)).sb 0).trans rfl),((blk_cell (blk_alloc HG1.out _) 0).trans rfl),((blk_cell (blk_alloc HG1.out _) 1).trans rfl),((blk_cell (blk_alloc HG1.out _) 2).trans rfl),((blk_cell (blk_alloc HG1.out _) 3).trans rfl)⟩ (fun hHeld=>?_)
     clear hK K
     refine norm_ (a':=?_) ?_ ?_
     rotate_left
     ·show Act.put _ (some 25) _ = _
      simp only [Act.put,sA,sB,sC,i64_w,i32_w]
      rfl
     refine one_ (i:=3) (N:=some 23) (bm 63 9) rfl rfl (by kernel_rfl) (by decide) (fun K hK=>?_)
     have cob:w2.drew.cell? ⟨Ob,0,none⟩ = some vo1:=(blk_cell HW3.out.ob 0).trans rfl
     have cob2:(w2.alloc (Obj.cells #[.int .i64 x.f0,.int .i64 x.f1,.string x.f2,.slice SA Sn Sc] 87)).cell? ⟨Ob,0,none⟩ = some vo1:=(blk_cell (blk_alloc HW3.out.ob _) 0).trans rfl
     refine value_ (w1:=?_) (v:=?_) (by rfl) rfl ?_ ?_
     rotate_left 2
     ·go_simp
      constructor
      ·rfl
      ·rfl
     clear cob
     clear cob2
     refine hK.out _ _ ⟨((blk_cell (HW3.out.below (below_alloc (Below.refl _ _) _)).sb 0).trans rfl),((blk_cell (blk_alloc HG1.out _) 0).trans rfl),((blk_cell (blk_alloc HG1.out _) 1).trans rfl),((blk_cell (blk_alloc HG1.out _) 2).trans rfl),((blk_cell (blk_alloc HG1.out _) 3).trans rfl)⟩ (fun hHeld=>?_)
     clear hK K
     refine norm_ (a':=?_) ?_ ?_
     rotate_left
     ·show Act.put _ (some 23) _ = _
      simp only [Act.put,sA,sB,sC,i64_w,i32_w]
      rfl
     exact norm_ (by simp only [putAll,Act.put,sA,sB,sC]) (hCont () _ rfl)
   rintro _ w5 hw5
   subst hw5
   have hHeld:(w2.drew.alloc (Obj.cells #[.int .i64 x.f0,.int .i64 x.f1,.string x.f2,.slice SA Sn Sc] 87)).cell? ⟨Sb,0,none⟩ = some (.map (some Sm)) ∧ (w2.drew.alloc (Obj.cells #[.int .i64 x.f0,.int .i64 x.f1,.string x.f2,.slice SA Sn Sc] 87)).cell? ⟨g,0,none⟩ = some (.int .i64 x.f0) ∧ (w2.drew.alloc (Obj.cells #[.int .i64 x.f0,.int .i64 x.f1,.string x.f2,.slice SA Sn Sc] 87)).cell? ⟨g,1,none⟩ = some (.int .i64 x.f1) ∧ (w2.drew.alloc (Obj.cells #[.int .i64 x.f0,.int .i64 x.f1,.string x.f2,.slice SA Sn Sc] 87)).cell? ⟨g,2,none⟩ = some (.string x.f2) ∧ (w2.drew.alloc (Obj.cells #[.int .i64 x.f0,.int .i64 x.f1,.string x.f2,.slice SA Sn Sc] 87)).cell? ⟨g,3,none⟩ = some (.slice SA Sn Sc):=⟨((blk_cell (HW3.out.below (below_alloc (Below.refl _ _) _)).sb 0).trans rfl),((blk_cell (blk_alloc HG1.out _) 0).trans rfl),((blk_cell (blk_alloc HG1.out _) 1).trans rfl),((blk_cell (blk_alloc HG1.out _) 2).trans rfl),((blk_cell (blk_alloc HG1.out _) 3).trans rfl)⟩
   refine norm_ (a':=?_) ?_ ?_
   rotate_left
   ·simp only [putAll,Act.put,sA,sB,sC]
    rfl
   refine one_ (i:=6) (N:=some 26) (bm 127 9) rfl rfl (by kernel_rfl) (by decide) (fun K hK=>?_)
   refine step_append_cells (P:=Try.prog) (w0:=w2.drew) (W:=w2.drew) base (by rfl) (.tmp 23) (.tmp 25) 70 87 (.agg #[.int .i64 0,.int .i64 0,.string ⟨#[]⟩,.slice none 0 0]) 4 56 rfl Try.underlying70 info87i rfl (by decide) (by decide) vo1 (out1.map (mk4 sl)).length ((out1.map (mk4 sl)).flatMap enc4) [.int .i64 x.f0,.int .i64 x.f1,.string x.f2,.slice SA Sn Sc] rfl rfl rfl (by simp [Value.oneCell']) HW3.out.ro (Below.refl _ _) HBW.out (by have:=HOL.out;rw [List.length_map];omega) ?_
   intro vn w6 hr6 hb6 hg6 ha6
   have hR:RowIs w6 base vn ((out1 ++ [x]).map (mk4 sl)):=rowSnoc HSL.out hr6
   obtain ⟨AV,nv,cv,ev⟩:∃ A m c,vn = .slice A m c:=by obtain ⟨A,c,e,_⟩:=hR.slice;exact ⟨A,_,c,e⟩
   subst ev
   have HWA:=Aside0.mk (HW3.out.append hR hg6 ha6)
   have HG6:=Aside0.mk ((hg6.block g (blk_lt HG1.out) (fun e=>HNG.out e.symm)).trans HG1.out)
   have HF6:=Aside0.mk (HF3.out.grown hg6 HLW.out (HW3.out.ro.fr HLO.out))
   have HL6:=Aside0.mk (Nat.le_trans HLW.out hg6.size)
   clear hr6 hb6 hg6 ha6 hR HG1 HF3 HW3
   refine hK.out _ _ ⟨((blk_cell HWA.out.sb 0).trans rfl),((blk_cell HG6.out 0).trans rfl),((blk_cell HG6.out 1).trans rfl),((blk_cell HG6.out 2).trans rfl),((blk_cell HG6.out 3).trans rfl)⟩ (fun hHeld=>?_)
   clear hK K
   refine norm_ (a':=?_) ?_ ?_
   rotate_left
   ·show Act.put _ (some 26) _ = _
    simp only [Act.put,sA,sB,sC,i64_w,i32_w]
    rfl
   refine one_ (i:=7) (N:=none) (bm 255 9) rfl rfl (by kernel_rfl) (by decide) (fun K hK=>?_)
   have cob:w6.cell? ⟨Ob,0,none⟩ = some vo1:=(blk_cell HWA.out.ob 0).trans rfl
   have cobf:=blk_frozen HWA.out.ob 0
   refine skip_ (w1:=?_) (by rfl) rfl ?_ ?_
   rotate_left
   ·go_simp
    rfl
   have HWB:=Aside0.mk HWA.out.stored
   have HG7:=Aside0.mk ((Below.heap_setCell w6 ⟨Ob,0,none⟩ (.slice AV nv cv) g (fun e=>by have h:=HG6.out;rw [show g = Ob from e,HWA.out.ob] at h;injection h with h;injection h with _ h;exact absurd h (by decide))).trans HG6.out)
   have HF7:=Aside0.mk (HF6.out.set HWA.out.ob (by decide) (Nat.le_trans HLO.out HWA.out.lO) (o:=0) (.slice AV nv cv))
   have HL7:Aside0 (lo ≤ (w6.setCell ⟨Ob,0,none⟩ (.slice AV nv cv)).heap.size):=⟨by have:=HL6.out;simpa using this⟩
   clear cob cobf HWA HG6 HF6 HL6
   refine hK.out _ _ ⟨((blk_cell HWB.out.sb 0).trans rfl),((blk_cell HG7.out 0).trans rfl),((blk_cell HG7.out 1).trans rfl),((blk_cell HG7.out 2).trans rfl),((blk_cell HG7.out 3).trans rfl)⟩ (fun hHeld=>?_)
   clear hK K
   refine last_ (i:=8) (N:=none) (bm 511 9) rfl rfl (by kernel_rfl) (by decide) (fun K hK=>?_)
   obtain ⟨_,_,hmm⟩:=HWB.out.ms.map
   have HMM:=Aside0.mk hmm
   clear hmm
   refine step_store _ (by rfl) (.tmp 20) (.tmp 22) (.const (.bool true)) 133 4 rfl Try.underlying133 Sm out1.length gs1 rfl HWB.out.ms (by have:=HOL.out;simp only [maxLen];omega) x.f0 rfl (HWF.out x HXM.out.1) _ rfl ?_
   intro w8 hm8 hg8 hs8
   have HWE:=Aside0.mk (And.intro (HWB.out.marked hm8 hg8) (HF7.out.grown hg8 HL7.out (map_fr HMM.out (Nat.le_trans HLO.out HWB.out.lS))))
   have HLE:Aside0 (lo ≤ w8.heap.size):=⟨Nat.le_trans HL7.out hg8.size⟩
   have HGE:=Aside0.mk ((grown_move HMM.out hg8 _ _ _ HG7.out).trans HG7.out)
   clear hm8 hg8 hs8
   refine hK.out _ _ ?_
   clear hK K
   refine done_ (by kernel_rfl) ?_
   have wb8:w8.cell? ⟨Wb,0,none⟩ = some (.func (.func 108) #[] #[.pointer (some ⟨Kb,0,none⟩),.pointer (some ⟨Ob,0,none⟩),.pointer (some ⟨Sb,0,none⟩),.pointer (some ⟨Wb,0,none⟩)]):=(blk_cell HWE.out.1.wb 0).trans rfl
   have gx8:w8.cell? ⟨g,0,none⟩ = some (.int .i64 x.f0):=(blk_cell HGE.out 0).trans rfl
   clear hHeld
   go_upto_region 6 with (go_at_call 108;(with_reducible refine (HIH.out x.f0 (out1 ++ [x]) out2 _ done1 _ _ (HWF.out x HXM.out.1) HLE.out HBL.out HWE.out.1 HO2.out).mono ?_);rintro e6 w6 ⟨rfl,done2,vo2,gs2,hd2,hW6,hF6⟩;have HD6:=Aside0.mk hd2;have HW6:=Aside0.mk hW6;have HF6:=Aside0.mk hF6;clear hd2 hW6 hF6)
   have wk:wrap64 ((i:Int) + 1) = (i:Int) + 1:=by have:=HN.out.2.2;unfold wrap64;omega
   go_wp2
   go_roundg gl
   case measure=>omega
   case rel=>exact ⟨i + 1,done2,out2,vo2,gs2,by simp [wk],⟨by have:=HI.out;omega⟩,HV2,⟨fun q h=>HD6.out q (HD1.out q h)⟩,HW6,⟨HWE.out.2.trans HF6.out⟩⟩
end
theorem RangeV.block {w w':World} {b r n:Nat} {g:Int → Option Value} {left:Int → Bool} {cnt:Nat} (h:RangeV w b r n g left cnt) (hb:w'.heap[b]? = w.heap[b]?) (hr:w'.heap[r]? = w.heap[r]?):RangeV w' b r n g left cnt:=by
 obtain ⟨D,lf,⟨es,clock,since,seen,c0,h1,h2,h3,h4,h5,h6⟩,h7⟩:=h
 exact ⟨D,lf,⟨es,clock,since,seen,c0,hb.trans h1,h2,h3,h4,hr.trans h5,h6⟩,h7⟩
theorem RangeV.iter {w:World} {b r n:Nat} {g:Int → Option Value} {left:Int → Bool} {cnt:Nat} (h:RangeV w b r n g left cnt):∃ since seen c0,w.heap[r]? = some (.mapIter (some b) since seen c0):=by
 obtain ⟨D,lf,⟨es,clock,since,seen,c0,h1,h2,h3,h4,h5,h6⟩,h7⟩:=h
 exact ⟨since,seen,c0,h5⟩
def slOf (ga:Int → Option Value) (i:Int):Option Addr × Nat × Nat:=match (ga i).getD (.slice none 0 0) with
 | .slice A n c=>(A,n,c)
 | _=>(none,0,0)
def ItB (lo base:Nat) (w:World) (v:Value) (x:S87):Prop :=
 (Lit.int .i64 x.f1).wf = true ∧ ∃ p u,v = .pointer (some ⟨p,0,none⟩) ∧ lo ≤ p ∧ p < base ∧ w.heap[p]? = some (.cells #[.int .i64 x.f0,.int .i64 x.f1,.string x.f2,u] 87 (0,0))
structure FillB (lo base B Bi Ba n Kb K r nk:Nat) (gi ga:Int → Option Value) (b:Brd) (left:Int → Bool) (cnt:Nat) (gm:Int → Option Value) (w:World):Prop where
 blk:w.heap[B]? = some (.cells #[.map (some Bi),.map (some Ba)] 144 (0,0))
 rg:RangeV w Bi r n gi left cnt
 ma:MapV w Ba n ga
 neI:K ≠ Bi
 neA:K ≠ Ba
 its:∀ i,(gi i).isSome = (b.it i).isSome ∧ ∀ v x,gi i = some v → b.it i = some x → ItB lo base w v x
 ats:∀ i,AtV w lo ((ga i).getD (.slice none 0 0)) (b.atD i)
 kb:w.heap[Kb]? = some (.cells #[.map (some K)] 179 (0,0))
 mK:MapV w K nk gm
 lK:base ≤ K
structure FillR (base:Nat) (sl:Int → Option Addr × Nat × Nat) (gm:Int → Option Value) (w:World) (va:Value) (DK DA:List S87):Prop where
 kids:∀ p,RowIs w base ((gm p).getD (.slice none 0 0)) ((DK.filter (fun x=>x.f1 == p)).map (mk4 sl))
 kap:∀ p q k,p ≠ q → ((gm p).getD (.slice none 0 0)).ownBlock = some k → ((gm q).getD (.slice none 0 0)).ownBlock ≠ some k
 ra:RowIs w base va (DA.map (mk4 sl))
 aap:∀ p k,((gm p).getD (.slice none 0 0)).ownBlock = some k → va.ownBlock ≠ some k
section
variable {lo base B Bi Ba n Kb K r nk:Nat} {gi ga:Int → Option Value} {b:Brd} {left:Int → Bool} {cnt:Nat} {gm:Int → Option Value} {w w':World} {sl:Int → Option Addr × Nat × Nat} {va:Value} {DK DA:List S87}
def Kp (base:Nat) (w w':World):Prop:=∀ (g:Nat) (o:Obj),w.heap[g]? = some o → (∀ cur,o = .cells cur 87 (0,0) → g < base) → w'.heap[g]? = some o
theorem Kp.of {v:Value} {xs:List It4} (hv:RowIs w base v xs) (hg:w.grownBy w' v.ownBlock):Kp base w w':=by
 intro g o hgo ho
 refine (hg.block g (by obtain ⟨h,_⟩:=Array.getElem?_eq_some_iff.1 hgo;exact h) (fun e=>?_)).trans hgo
 obtain ⟨h1,_,cur,hc⟩:=hv.cells e.symm
 rw [hgo] at hc
 have:=ho cur (Option.some.inj hc)
 omega
theorem Kp.below (h:Below w.heap.size w w'):Kp base w w':=fun g o hgo _=>(h.block g (by obtain ⟨h,_⟩:=Array.getElem?_eq_some_iff.1 hgo;exact h)).trans hgo
theorem FillB.move (h:FillB lo base B Bi Ba n Kb K r nk gi ga b left cnt gm w) (hk:Kp base w w'):FillB lo base B Bi Ba n Kb K r nk gi ga b left cnt gm w':=by
 obtain ⟨_,_,m1⟩:=h.rg.map.map
 obtain ⟨_,_,m2⟩:=h.ma.map
 obtain ⟨_,_,m3⟩:=h.mK.map
 obtain ⟨_,_,_,m4⟩:=h.rg.iter
 have hmap:∀ {m:Nat} {es:Array MapEntry} {c:Nat},w.heap[m]? = some (.map es c) → w'.heap[m]? = w.heap[m]?:=fun hm=>(hk _ _ hm (fun _ e=>by cases e)).trans hm.symm
 refine ⟨hk _ _ h.blk (fun _ e=>by injection e with _ e;exact absurd e (by decide)),h.rg.block (hmap m1) ((hk _ _ m4 (fun _ e=>by cases e)).trans m4.symm),h.ma.block (hmap m2),h.neI,h.neA,fun i=>⟨(h.its i).1,fun v x hv hx=>?_⟩,fun i=>?_,hk _ _ h.kb (fun _ e=>by injection e with _ e;exact absurd e (by decide)),h.mK.block (hmap m3),h.lK⟩
 ·obtain ⟨hw,p,u,e,h1,h2,h3⟩:=(h.its i).2 v x hv hx
  exact ⟨hw,p,u,e,h1,h2,hk _ _ h3 (fun _ _=>h2)⟩
 ·exact AtV.move (h.ats i) (fun k cells hc=>(hk _ _ hc (fun _ e=>by injection e with _ e;exact absurd e (by decide))).trans hc.symm)
theorem FillB.next {left':Int → Bool} {cnt':Nat} (h:FillB lo base B Bi Ba n Kb K r nk gi ga b left cnt gm w) (hr:RangeV w' Bi r n gi left' cnt') (hg:w.grownBy w' (some r)):FillB lo base B Bi Ba n Kb K r nk gi ga b left' cnt' gm w':=by
 obtain ⟨_,_,m2⟩:=h.ma.map
 obtain ⟨_,_,m3⟩:=h.mK.map
 obtain ⟨_,_,_,m4⟩:=h.rg.iter
 have hk:∀ {g:Nat} {o:Obj},w.heap[g]? = some o → (∀ a b c d,o ≠ .mapIter a b c d) → w'.heap[g]? = some o:=fun {g o} hgo ho=>(hg.block g (by obtain ⟨h,_⟩:=Array.getElem?_eq_some_iff.1 hgo;exact h) (fun e=>by cases e;rw [m4] at hgo;exact ho _ _ _ _ (Option.some.inj hgo).symm)).trans hgo
 refine ⟨hk h.blk (fun _ _ _ _ e=>by cases e),hr,h.ma.block ((hk m2 (fun _ _ _ _ e=>by cases e)).trans m2.symm),h.neI,h.neA,fun i=>⟨(h.its i).1,fun v x hv hx=>?_⟩,fun i=>?_,hk h.kb (fun _ _ _ _ e=>by cases e),h.mK.block ((hk m3 (fun _ _ _ _ e=>by cases e)).trans m3.symm),h.lK⟩
 ·obtain ⟨hw,p,u,e,h1,h2,h3⟩:=(h.its i).2 v x hv hx
  exact ⟨hw,p,u,e,h1,h2,hk h3 (fun _ _ _ _ e=>by cases e)⟩
 ·exact AtV.move (h.ats i) (fun k cells hc=>(hk hc (fun _ _ _ _ e=>by cases e)).trans hc.symm)
theorem FillR.next (h:FillR base sl gm w va DK DA) (hr:RangeV w Bi r n gi left cnt) (hg:w.grownBy w' (some r)):FillR base sl gm w' va DK DA:=by
 obtain ⟨_,_,_,m4⟩:=hr.iter
 have hrow:∀ {v:Value} {xs:List It4},RowIs w base v xs → RowIs w' base v xs:=fun hv=>hv.keep (fun k e=>hg.block k (hv.cells e).2.1 (fun e'=>by
  cases e'
  obtain ⟨_,_,cur,hc⟩:=hv.cells e
  rw [m4] at hc
  cases hc))
 exact ⟨fun p=>hrow (h.kids p),h.kap,hrow h.ra,h.aap⟩
theorem FillB.store (h:FillB lo base B Bi Ba n Kb K r nk gi ga b left cnt gm w) {p:Nat} {c0 c1 c2 u:Value} (hp:w.heap[p]? = some (.cells #[c0,c1,c2,u] 87 (0,0))) (u':Value):FillB lo base B Bi Ba n Kb K r nk gi ga b left cnt gm (w.setCell ⟨p,3,none⟩ u'):=by
 obtain ⟨_,_,m1⟩:=h.rg.map.map
 obtain ⟨_,_,m2⟩:=h.ma.map
 obtain ⟨_,_,m3⟩:=h.mK.map
 obtain ⟨_,_,_,m4⟩:=h.rg.iter
 have hfar:∀ {g:Nat},g ≠ p → (w.setCell ⟨p,3,none⟩ u').heap[g]? = w.heap[g]?:=fun hg=>Below.heap_setCell w ⟨p,3,none⟩ u' _ hg
 have hk:∀ {g:Nat} {o:Obj},w.heap[g]? = some o → (∀ c,o ≠ .cells c 87 (0,0)) → (w.setCell ⟨p,3,none⟩ u').heap[g]? = some o:=fun {g o} hgo ho=>(hfar (fun e=>by subst e;rw [hp] at hgo;exact ho _ (Option.some.inj hgo).symm)).trans hgo
 refine ⟨hk h.blk (fun _ e=>by injection e with _ e;exact absurd e (by decide)),h.rg.block ((hk m1 (fun _ e=>by cases e)).trans m1.symm) ((hk m4 (fun _ e=>by cases e)).trans m4.symm),h.ma.block ((hk m2 (fun _ e=>by cases e)).trans m2.symm),h.neI,h.neA,fun i=>⟨(h.its i).1,fun v x hv hx=>?_⟩,fun i=>?_,hk h.kb (fun _ e=>by injection e with _ e;exact absurd e (by decide)),h.mK.block ((hk m3 (fun _ e=>by cases e)).trans m3.symm),h.lK⟩
 ·obtain ⟨hw,q,v',e,h1,h2,h3⟩:=(h.its i).2 v x hv hx
  by_cases hq:q = p
  ·subst hq
   rw [hp] at h3
   injection h3 with h3
   injection h3 with h3
   injection h3 with h3
   simp only [List.cons.injEq,and_true] at h3
   obtain ⟨rfl,rfl,rfl,rfl⟩:=h3
   refine ⟨hw,q,u',e,h1,h2,?_⟩
   have:=blk_set hp 3 u'
   simpa using this
  ·exact ⟨hw,q,v',e,h1,h2,(hfar hq).trans h3⟩
 ·exact AtV.move (h.ats i) (fun k cells hc=>(hk hc (fun _ e=>by injection e with _ e;exact absurd e (by decide))).trans hc.symm)
theorem FillR.store (h:FillR base sl gm w va DK DA) {p:Nat} (hp:p < base) (u:Value) (o:Nat):FillR base sl gm (w.setCell ⟨p,o,none⟩ u) va DK DA:=by
 have hrow:∀ {v:Value} {xs:List It4},RowIs w base v xs → RowIs (w.setCell ⟨p,o,none⟩ u) base v xs:=fun hv=>hv.keep (fun k e=>Below.heap_setCell w ⟨p,o,none⟩ u k (by have:=(hv.cells e).1;simp only;omega))
 exact ⟨fun p=>hrow (h.kids p),h.kap,hrow h.ra,h.aap⟩
theorem FillR.below (h:FillR base sl gm w va DK DA) (hb:Below w.heap.size w w'):FillR base sl gm w' va DK DA:=by
 have hrow:∀ {v:Value} {xs:List It4},RowIs w base v xs → RowIs w' base v xs:=fun hv=>hv.keep (fun k e=>hb.block k (hv.cells e).2.1)
 exact ⟨fun p=>hrow (h.kids p),h.kap,hrow h.ra,h.aap⟩
theorem FillB.put (h:FillB lo base B Bi Ba n Kb K r nk gi ga b left cnt gm w) {q:Int} {vn:Value} (hm:MapV w' K (nk + 1) (putV gm q vn) ) (hg:w.grownBy w' (some K)):FillB lo base B Bi Ba n Kb K r (nk + 1) gi ga b left cnt (putV gm q vn) w':=by
 obtain ⟨_,_,m1⟩:=h.rg.map.map
 obtain ⟨_,_,m2⟩:=h.ma.map
 obtain ⟨_,_,m3⟩:=h.mK.map
 obtain ⟨_,_,_,m4⟩:=h.rg.iter
 have hk:∀ {g:Nat} {o:Obj},w.heap[g]? = some o → g ≠ K → w'.heap[g]? = some o:=fun {g o} hgo ho=>(hg.block g (by obtain ⟨h,_⟩:=Array.getElem?_eq_some_iff.1 hgo;exact h) (fun e=>ho (by injection e))).trans hgo
 have ho:∀ {g:Nat} {o:Obj},w.heap[g]? = some o → (∀ a b,o ≠ .map a b) → g ≠ K:=fun {g o} hgo hne e=>by subst e;rw [m3] at hgo;exact hne _ _ (Option.some.inj hgo).symm
 refine ⟨hk h.blk (ho h.blk (fun _ _ e=>by cases e)),h.rg.block ((hk m1 (Ne.symm h.neI)).trans m1.symm) ((hk m4 (ho m4 (fun _ _ e=>by cases e))).trans m4.symm),h.ma.block ((hk m2 (Ne.symm h.neA)).trans m2.symm),h.neI,h.neA,fun i=>⟨(h.its i).1,fun v x hv hx=>?_⟩,fun i=>?_,hk h.kb (ho h.kb (fun _ _ e=>by cases e)),hm,h.lK⟩
 ·obtain ⟨hw,p,u,e,h1,h2,h3⟩:=(h.its i).2 v x hv hx
  exact ⟨hw,p,u,e,h1,h2,hk h3 (ho h3 (fun _ _ e=>by cases e))⟩
 ·exact AtV.move (h.ats i) (fun k cells hc=>(hk hc (ho hc (fun _ _ e=>by cases e))).trans hc.symm)
theorem putV_getD (g:Int → Option Value) (q:Int) (v z:Value) (p:Int):(putV g q v p).getD z = if p = q then v else (g p).getD z:=by
 unfold putV
 split <;> rfl
theorem FillR.appK (h:FillR base sl gm w va DK DA) {x:S87} {vn:Value} (hr:RowIs w' base vn ((DK.filter (fun y=>y.f1 == x.f1) ++ [x]).map (mk4 sl))) (hg:w.grownBy w' ((gm x.f1).getD (.slice none 0 0)).ownBlock) (hat:vn.ownBlock = ((gm x.f1).getD (.slice none 0 0)).ownBlock ∨ ∃ k,vn.ownBlock = some k ∧ w.heap.size ≤ k) :
 FillR base sl (putV gm x.f1 vn) w' va (DK ++ [x]) DA:=by
 have hrow:∀ {v:Value} {xs:List It4},RowIs w base v xs → (∀ k,((gm x.f1).getD (.slice none 0 0)).ownBlock = some k → v.ownBlock ≠ some k) → RowIs w' base v xs:=fun hv hk=>hv.keep (fun k e=>hg.block k (hv.cells e).2.1 (fun e'=>hk k e'.symm e))
 have hnew:∀ {v:Value} {xs:List It4},RowIs w base v xs → (∀ k,v.ownBlock = some k → ((gm x.f1).getD (.slice none 0 0)).ownBlock ≠ some k) → ∀ k,v.ownBlock = some k → vn.ownBlock ≠ some k:=by
  intro v xs hv hk k e e'
  rcases hat with hat | ⟨k',hat,hs⟩
  ·rw [hat] at e'
   exact hk k e e'
  ·rw [hat] at e'
   cases e'
   exact absurd (hv.cells e).2.1 (by omega)
 refine ⟨fun p=>?_,fun p q k hpq e=>?_,hrow h.ra (fun k e=>h.aap _ k e),fun p k e=>?_⟩
 ·rw [putV_getD,List.filter_append]
  by_cases hp:p = x.f1
  ·subst hp
   rw [if_pos rfl]
   simpa using hr
  ·rw [if_neg hp]
   have:([x].filter (fun y=>y.f1 == p)) = []:=by simp [Ne.symm hp]
   rw [this,List.append_nil]
   exact hrow (h.kids p) (fun k e=>h.kap _ _ k (Ne.symm hp) e)
 ·rw [putV_getD] at e ⊢
  by_cases hq:q = x.f1
  ·rw [if_pos hq]
   rw [if_neg (by rw [← hq];exact hpq)] at e
   exact hnew (h.kids p) (fun k e=>h.kap _ _ k (by rw [← hq];exact hpq) e) k e
  ·rw [if_neg hq]
   by_cases hp:p = x.f1
   ·rw [if_pos hp] at e
    intro e'
    exact hnew (h.kids q) (fun k e=>h.kap _ _ k hq e) k e' e
   ·rw [if_neg hp] at e
    exact h.kap _ _ k hpq e
 ·rw [putV_getD] at e
  by_cases hp:p = x.f1
  ·rw [if_pos hp] at e
   intro e'
   exact hnew h.ra (fun k h1 h2=>h.aap _ k h2 h1) k e' e
  ·rw [if_neg hp] at e
   exact h.aap _ k e
theorem FillR.mapped (h:FillR base sl gm w va DK DA) {m:Nat} {es:Array MapEntry} {c:Nat} (hm:w.heap[m]? = some (.map es c)) (hg:w.grownBy w' (some m)):FillR base sl gm w' va DK DA:=by
 have hrow:∀ {v:Value} {xs:List It4},RowIs w base v xs → RowIs w' base v xs:=fun hv=>hv.keep (fun k e=>by
  obtain ⟨_,_,cur,hc⟩:=hv.cells e
  exact grown_move hm hg _ _ _ hc)
 exact ⟨fun p=>hrow (h.kids p),h.kap,hrow h.ra,h.aap⟩
theorem FillR.appA (h:FillR base sl gm w va DK DA) {x:S87} {vn:Value} (hr:RowIs w' base vn ((DA ++ [x]).map (mk4 sl))) (hg:w.grownBy w' va.ownBlock) (hat:vn.ownBlock = va.ownBlock ∨ ∃ k,vn.ownBlock = some k ∧ w.heap.size ≤ k):FillR base sl gm w' vn DK (DA ++ [x]):=by
 have hrow:∀ {v:Value} {xs:List It4},RowIs w base v xs → (∀ k,va.ownBlock = some k → v.ownBlock ≠ some k) → RowIs w' base v xs:=fun hv hk=>hv.keep (fun k e=>hg.block k (hv.cells e).2.1 (fun e'=>hk k e'.symm e))
 refine ⟨fun p=>hrow (h.kids p) (fun k h1 h2=>h.aap p k h2 h1),h.kap,hr,fun p k e e'=>?_⟩
 rcases hat with hat | ⟨k',hat,hs⟩
 ·rw [hat] at e'
  exact h.aap p k e e'
 ·rw [hat] at e'
  cases e'
  exact absurd ((h.kids p).cells e).2.1 (by omega)
end
section
variable {lo base B Bi Ba n Kb K r nk:Nat} {gi ga:Int → Option Value} {b:Brd} {left:Int → Bool} {cnt:Nat} {gm:Int → Option Value} {w w':World} {sl:Int → Option Addr × Nat × Nat} {va:Value} {DK DA:List S87}
abbrev fillW (w:World):World:=(w.alloc (.map #[] 0)).alloc (.cells #[.map (some w.heap.size)] 179)
theorem fillW_below (w:World):Below w.heap.size w (fillW w):=below_alloc (below_alloc (Below.refl _ _) _) _
theorem FillB.start (h:BoardIs w lo B Bi Ba n gi ga b) (hl:lo ≤ w.heap.size) {w3:World} (hr:RangeV w3 Bi (w.heap.size + 2) n gi (fun i=>(gi i).isSome) cnt) (hg:(fillW w).grownBy w3 none) :
 FillB lo w.heap.size B Bi Ba n (w.heap.size + 1) w.heap.size (w.heap.size + 2) 0 gi ga b (fun i=>(gi i).isSome) cnt (fun _=>none) w3:=by
 have hb1:=fillW_below w
 have hs:(fillW w).heap.size = w.heap.size + 2:=by simp [fillW]
 have hb2:∀ k,k < w.heap.size + 2 → w3.heap[k]? = (fillW w).heap[k]?:=fun k hk=>hg.block k (by rw [hs];exact hk) (by simp)
 have hb3:∀ k,k < w.heap.size → w3.heap[k]? = w.heap[k]?:=fun k hk=>(hb2 k (by omega)).trans (hb1.block k hk)
 have hkm:(fillW w).heap[w.heap.size]? = (w.alloc (.map #[] 0)).heap[w.heap.size]?:=(below_alloc (Below.refl _ (w.alloc (.map #[] 0))) _).block _ (by simp)
 refine ⟨(hb3 _ (blk_lt h.blk)).trans h.blk,hr,h.ma.block (hb3 _ h.ma.lt),fun e=>by have:=h.mi.lt;omega,fun e=>by have:=h.ma.lt;omega,fun i=>⟨(h.it i).1,fun v x hv hx=>?_⟩,fun i=>?_,?_,?_,Nat.le_refl _⟩
 ·obtain ⟨hw,p,u,e,h1,h2,h3⟩:=(h.it i).2 v x hv hx
  exact ⟨hw,p,u,e,h1,blk_lt h2,(hb3 p (blk_lt h2)).trans h2⟩
 ·exact AtV.move (h.atD i) (fun k cells hc=>hb3 k (blk_lt hc))
 ·rw [hb2 _ (by omega)]
  have:=blk_new (w.alloc (.map #[] 0)) (.cells #[.map (some w.heap.size)] 179)
  simpa using this
 ·exact (MapV.made w).block ((hb2 _ (by omega)).trans hkm)
theorem FillR.start (base:Nat) (sl:Int → Option Addr × Nat × Nat) (w:World):FillR base sl (fun _=>none) w (.slice none 0 0) [] [] :=
 ⟨fun p=>RowIs.nil _ _,(fun p q k _ e=>by cases e),RowIs.nil _ _,(fun p k e=>by cases e)⟩
theorem left_step {D its:List S87} {left:Int → Bool} {x:S87} (hD:D.Perm (its.filter (fun y=>!left y.f0))) (hnd:its.Pairwise (fun x y=>x.f0 ≠ y.f0)) (hx:x ∈ its) (hl:left x.f0 = true):(D ++ [x]).Perm (its.filter (fun y=>!(left y.f0 && !decide (y.f0 = x.f0)))):=by
 refine (hD.append_right [x]).trans ?_
 clear hD
 induction its with
 | nil=>cases hx
 | cons y l ih =>
  rw [List.pairwise_cons] at hnd
  rcases List.mem_cons.1 hx with rfl | hx
  ·have h1:l.filter (fun y=>!(left y.f0 && !decide (y.f0 = x.f0))) = l.filter (fun y=>!left y.f0):=List.filter_congr fun y hy=>by
    have:=hnd.1 y hy
    rw [decide_eq_false (Ne.symm this)]
    simp
   rw [List.filter_cons,List.filter_cons,h1]
   simp only [hl,decide_true,Bool.not_true,Bool.and_false,Bool.not_false,if_true,Bool.false_eq_true,if_false]
   exact List.perm_append_comm.trans (by simp)
  ·have h2:=ih hnd.2 hx
   have h3:decide (y.f0 = x.f0) = false:=decide_eq_false (hnd.1 x hx)
   rw [List.filter_cons,List.filter_cons,h3]
   cases left y.f0 with
   | true=>simpa using h2
   | false=>simpa using h2.cons y
theorem left_done {D its:List S87} {left:Int → Bool} (hD:D.Perm (its.filter (fun y=>!left y.f0))) (hl:∀ i,left i = false):D.Perm its:=by
 have:its.filter (fun y=>!left y.f0) = its:=List.filter_eq_self.2 fun y _=>by rw [hl];rfl
 rwa [this] at hD
abbrev walkW (w:World) (Kb:Nat):World:=(((w.alloc (.cells #[.slice none 0 0] 70)).alloc (.map #[] 0)).alloc (.cells #[.map (some (w.heap.size + 1))] 133)).alloc (.cells #[.func (.func 108) #[] #[.pointer (some ⟨Kb,0,none⟩),.pointer (some ⟨w.heap.size,0,none⟩),.pointer (some ⟨w.heap.size + 1 + 1,0,none⟩),.pointer (some ⟨w.heap.size + 1 + 1 + 1,0,none⟩)]] 174)
theorem walkW_below (w:World) (Kb:Nat):Below w.heap.size w (walkW w Kb):=below_alloc (below_alloc (below_alloc (below_alloc (Below.refl _ _) _) _) _) _
theorem WalkS.start (h:FillB lo base B Bi Ba n Kb K r nk gi ga b left cnt gm w) (hr:FillR base sl gm w va DK DA) (hD:DK.Perm b.its) (hb:base ≤ w.heap.size) :
 WalkS base K Kb w.heap.size (w.heap.size + 1 + 1) (w.heap.size + 1 + 1 + 1) (w.heap.size + 1) nk gm sl b va DA (fun _=>False) (walkW w Kb) (.slice none 0 0) [] (fun _=>none):=by
 have hbw:=walkW_below w Kb
 have h0:=blk_new w (.cells #[.slice none 0 0] 70)
 have h1:=MapV.made (w.alloc (.cells #[.slice none 0 0] 70))
 have e1:(w.alloc (.cells #[.slice none 0 0] 70)).heap.size = w.heap.size + 1:=by simp
 have h2:=blk_new ((w.alloc (.cells #[.slice none 0 0] 70)).alloc (.map #[] 0)) (.cells #[.map (some (w.heap.size + 1))] 133)
 have e2:((w.alloc (.cells #[.slice none 0 0] 70)).alloc (.map #[] 0)).heap.size = w.heap.size + 1 + 1:=by simp
 have h3:=blk_new (((w.alloc (.cells #[.slice none 0 0] 70)).alloc (.map #[] 0)).alloc (.cells #[.map (some (w.heap.size + 1))] 133)) (.cells #[.func (.func 108) #[] #[.pointer (some ⟨Kb,0,none⟩),.pointer (some ⟨w.heap.size,0,none⟩),.pointer (some ⟨w.heap.size + 1 + 1,0,none⟩),.pointer (some ⟨w.heap.size + 1 + 1 + 1,0,none⟩)]] 174)
 have e3:(((w.alloc (.cells #[.slice none 0 0] 70)).alloc (.map #[] 0)).alloc (.cells #[.map (some (w.heap.size + 1))] 133)).heap.size = w.heap.size + 1 + 1 + 1:=by simp
 rw [e1] at h1
 rw [e2] at h2
 rw [e3] at h3
 refine ⟨(hbw.block _ (blk_lt h.kb)).trans h.kb,blk_alloc (blk_alloc (blk_alloc h0 _) _) _,blk_alloc h2 _,h3,hb,by omega,fun e=>by have:=h.mK.lt;omega,h.mK.block (hbw.block _ h.mK.lt),?_,fun i=>rfl,fun p=>⟨_,hD.filter _,fun hp=>hp.elim,?_⟩,hr.kap,RowIs.nil _ _,(fun p k _ e=>by cases e),?_,hr.aap,(fun k e=>by cases e)⟩
 ·refine h1.block (((below_alloc (Below.refl _ _) _).block _ (by rw [e3];omega)).trans ((below_alloc (Below.refl _ _) _).block _ (by rw [e2];omega)))
 ·exact (hr.kids p).keep (fun k hk=>hbw.block k ((hr.kids p).cells hk).2.1)
 ·exact hr.ra.keep (fun k hk=>hbw.block k (hr.ra.cells hk).2.1)
structure RestS (base Ob Sb Sm m:Nat) (gs:Int → Option Value) (sl:Int → Option Addr × Nat × Nat) (va:Value) (L:List S87) (w:World) (vo:Value) (out:List S87):Prop where
 ob:w.heap[Ob]? = some (.cells #[vo] 70 (0,0))
 sb:w.heap[Sb]? = some (.cells #[.map (some Sm)] 133 (0,0))
 lO:base ≤ Ob
 ms:MapV w Sm m gs
 ra:RowIs w base va (L.map (mk4 sl))
 ro:RowIs w base vo (out.map (mk4 sl))
 voa:∀ k,vo.ownBlock = some k → va.ownBlock ≠ some k
theorem WalkS.rest {Ob Sb Wb Sm:Nat} {D L:List S87} {done:Int → Prop} {vo:Value} {out:List S87} {gs:Int → Option Value} (h:WalkS base K Kb Ob Sb Wb Sm nk gm sl b va D done w vo out gs) (hg:w.grownBy w' va.ownBlock) (hr:RowIs w' base va (L.map (mk4 sl))):RestS base Ob Sb Sm out.length gs sl va L w' vo out:=by
 have hcell:∀ {g:Nat} {cur:Array Value} {t:TypeId},w.heap[g]? = some (.cells cur t (0,0)) → t ≠ 87 → w'.heap[g]? = some (.cells cur t (0,0)):=fun hb ht=>(hg.block _ (blk_lt hb) (fun e=>h.ra.ne hb (not87 ht) e.symm)).trans hb
 obtain ⟨_,_,m2⟩:=h.ms.map
 refine ⟨hcell h.ob (by decide),hcell h.sb (by decide),h.lO,h.ms.block (hg.block _ (by obtain ⟨h,_⟩:=Array.getElem?_eq_some_iff.1 m2;exact h) (fun e=>h.ra.ne m2 mapnot87 e.symm)),hr,h.ro.keep (fun k e=>hg.block k (h.ro.cells e).2.1 (fun e'=>h.voa k e e'.symm)),h.voa⟩
section
variable {Ob Sb Sm m:Nat} {gs:Int → Option Value} {L:List S87} {vo:Value} {out:List S87}
theorem RestS.below (h:RestS base Ob Sb Sm m gs sl va L w vo out) (hb:Below w.heap.size w w'):RestS base Ob Sb Sm m gs sl va L w' vo out :=
 ⟨(hb.block _ (blk_lt h.ob)).trans h.ob,(hb.block _ (blk_lt h.sb)).trans h.sb,h.lO,h.ms.block (hb.block _ h.ms.lt),h.ra.keep (fun k e=>hb.block k (h.ra.cells e).2.1),h.ro.keep (fun k e=>hb.block k (h.ro.cells e).2.1),h.voa⟩
theorem RestS.append (h:RestS base Ob Sb Sm m gs sl va L w vo out) {x:S87} {vn:Value} (hr:RowIs w' base vn ((out ++ [x]).map (mk4 sl))) (hg:w.grownBy w' vo.ownBlock) (hat:vn.ownBlock = vo.ownBlock ∨ ∃ k,vn.ownBlock = some k ∧ w.heap.size ≤ k) :
 w'.heap[Ob]? = some (.cells #[vo] 70 (0,0)) ∧ RestS base Ob Sb Sm m gs sl va L (w'.setCell ⟨Ob,0,none⟩ vn) vn (out ++ [x]):=by
 have hcell:∀ {g:Nat} {cur:Array Value} {t:TypeId},w.heap[g]? = some (.cells cur t (0,0)) → t ≠ 87 → w'.heap[g]? = some (.cells cur t (0,0)):=fun hb ht=>(hg.block _ (blk_lt hb) (fun e=>h.ro.ne hb (not87 ht) e.symm)).trans hb
 obtain ⟨_,_,m2⟩:=h.ms.map
 have hob:=hcell h.ob (by decide)
 have hsb:=hcell h.sb (by decide)
 have hm:w'.heap[Sm]? = w.heap[Sm]?:=hg.block _ (by obtain ⟨h,_⟩:=Array.getElem?_eq_some_iff.1 m2;exact h) (fun e=>h.ro.ne m2 mapnot87 e.symm)
 have hra:RowIs w' base va (L.map (mk4 sl)):=h.ra.keep (fun k e=>hg.block k (h.ra.cells e).2.1 (fun e'=>h.voa k e'.symm e))
 have hfar:∀ {g:Nat},g ≠ Ob → (w'.setCell ⟨Ob,0,none⟩ vn).heap[g]? = w'.heap[g]?:=fun hg=>Below.heap_setCell w' ⟨Ob,0,none⟩ vn _ hg
 have hrow:∀ {v:Value} {xs:List It4},RowIs w' base v xs → RowIs (w'.setCell ⟨Ob,0,none⟩ vn) base v xs:=fun hv=>hv.keep (fun k e=>hfar (fun e'=>hv.ne hob (not87 (by decide)) (by rw [e,e'])))
 refine ⟨hob,?_,(hfar (fun e=>by subst e;rw [hob] at hsb;injection hsb with hsb;injection hsb with _ hsb;exact absurd hsb (by decide))).trans hsb,h.lO,h.ms.block ((hfar (fun e=>by subst e;rw [← hm,hob] at m2;cases m2)).trans hm),hrow hra,hrow hr,fun k e e'=>?_⟩
 ·have:=blk_set hob 0 vn
  simpa using this
 ·rcases hat with hat | ⟨k',hat,hs⟩
  ·rw [hat] at e
   exact h.voa k e e'
  ·rw [hat] at e
   cases e
   exact absurd (h.ra.cells e').2.1 (by omega)
end
theorem sorted_all {b:Brd} (hB:BOK b) (sl:Int → Option Addr × Nat × Nat) {D:List S87} {L1:List It4} (h0:D.Perm b.its) (h1:L1.Perm (D.map (mk4 sl))) (hs:L1.Pairwise (fun x y=>ltOf cmpN y x = false)):L1 = (sortB ltN b.its).map (mk4 sl):=by
 have hm:=(h0.trans (sortB_perm ltN b.its).symm).map (mk4 sl)
 refine sorted_one (lt:=ltOf cmpN) (h1.trans hm) hs ?_ ?_
 ·rw [List.pairwise_map]
  exact sortB_sorted ltN ltN_nt ltN_as b.its
 ·intro x hx y hy e1 e2
  obtain ⟨x',hx',rfl⟩:=List.mem_map.1 hx
  obtain ⟨y',hy',rfl⟩:=List.mem_map.1 hy
  have h3:x'.f0 = y'.f0:=by
   have h1:=of_decide_eq_false ((cmpI_lt x'.f0 y'.f0).symm.trans e1)
   have h2:=of_decide_eq_false ((cmpI_lt y'.f0 x'.f0).symm.trans e2)
   omega
  have h4:=hB.it_of ((sortB_perm ltN b.its).mem_iff.1 hx')
  rw [h3,hB.it_of ((sortB_perm ltN b.its).mem_iff.1 hy')] at h4
  cases h4
  rfl
theorem rows_R {L:List S87} {vo:Value} (hlo:lo ≤ base) (h:RowIs w base vo (L.map (mk4 (slOf ga)))) (ha:∀ i,AtV w lo ((ga i).getD (.slice none 0 0)) (b.atD i)):Kd.R k87 87 w lo (fun k=>lo ≤ k) vo (L.map (fillF b)):=by
 refine ⟨fun k hk=>own_base (own_weaken h hlo) k hk,(L.map (mk4 (slOf ga))).flatMap enc4,?_,?_,fun j y hy=>?_⟩
 ·rw [List.length_map]
  have:=own_weaken h hlo
  rwa [List.length_map] at this
 ·rw [flat_len,List.length_map,List.length_map]
  rfl
 ·rw [List.getElem?_map] at hy
  obtain ⟨x,hx,rfl⟩:=Option.map_eq_some_iff.1 hy
  have hj:j < L.length:=(List.getElem?_eq_some_iff.1 hx).1
  have hsz:k87.sz = 4:=rfl
  rw [hsz]
  obtain ⟨A,c,hv,_⟩:=(ha x.f0).reads
  have e1:(((L.map (mk4 (slOf ga))).flatMap enc4).drop (j * 4)).take 4 = [.int .i64 x.f0,.int .i64 x.f1,.string x.f2,.slice A (b.atD x.f0).length c]:=by
   have hs:slOf ga x.f0 = (A,(b.atD x.f0).length,c):=by unfold slOf;rw [hv]
   have hf:∀ t,t < 4 → ((L.map (mk4 (slOf ga))).flatMap enc4)[j * 4 + t]? = some ((enc4 (mk4 (slOf ga) x))[t]!):=fun t ht=>by
    rw [flat_get _ _ (by rw [List.length_map];omega)]
    have e1:(j * 4 + t) / 4 = j:=by omega
    have e2:(j * 4 + t) % 4 = t:=by omega
    rw [e1,e2,getElem!_pos _ j (by rw [List.length_map];exact hj),List.getElem_map]
    have:L[j] = x:=by rw [List.getElem?_eq_getElem hj] at hx;exact Option.some.inj hx
    rw [this]
   have he:enc4 (mk4 (slOf ga) x) = [.int .i64 x.f0,.int .i64 x.f1,.string x.f2,.slice A (b.atD x.f0).length c]:=by unfold enc4 mk4;rw [hs]
   rw [← he]
   apply List.ext_getElem?
   intro t
   by_cases ht:t < 4
   ·rw [List.getElem?_take_of_lt ht,List.getElem?_drop,hf t ht]
    rw [getElem!_pos _ t (by rw [enc4_len];exact ht),List.getElem?_eq_getElem (by rw [enc4_len];exact ht)]
   ·rw [List.getElem?_eq_none (by rw [List.length_take];omega),List.getElem?_eq_none (by rw [enc4_len];omega)]
  rw [e1]
  have hR:=ha x.f0
  rw [hv] at hR
  refine k87_mkM w lo _ (fillF b x) (show k91.R 91 w lo _ _ (b.atD x.f0) from ⟨fun k hk=>⟨?_,fun e=>?_⟩,?_⟩)
  ·obtain ⟨_,inner,ho,_⟩:=hR
   exact own_base ho k hk
  ·obtain ⟨_,inner,ho,_⟩:=hR
   obtain ⟨c1,h1⟩:=own_typed ho k hk
   obtain ⟨_,_,c2,h2⟩:=h.cells e.symm
   rw [h1] at h2
   injection h2 with h2
   injection h2 with _ h2
   exact absurd h2 (by decide)
  ·obtain ⟨_,inner,ho,hr⟩:=hR
   exact ⟨inner,ho,hr.1,fun t p hp=>by
    have:=k91_openM (hr.2 t p hp)
    rw [this]
    exact k91_mkM _ _ _ _⟩
end
theorem zero4 (w:World):(zeroValue 4).run Try.prog w = .ok (.bool false) w:=by kernel_rfl
theorem MapV.run {w:World} {b n:Nat} {g:Int → Option Value} (h:MapV w b n g) {t e:TypeId} (ht:Try.prog.underlying t = some (.map 3 e)) {z:Value} (hz:(zeroValue e).run Try.prog w = .ok z w) (i:Int) (hw:(Lit.int .i64 i).wf = true) {v:Value} (hv:(g i).getD z = v) :
 (Instr.lookup t (.map (some b)) (.int .i64 i) false).run Try.prog w = .ok v w:=by rw [h.look ht hz i hw,hv]
def RawE (lo:Nat) (w:World) (b:Brd) (e:Ending) (w':World):Prop:=∃ v0,e = .returned v0 ∧ Kd.R k87 87 w' lo (fun k=>lo ≤ k) v0 ((orderL b).map (fillF b)) ∧ Below lo w w'
set_option maxRecDepth 100000 in
set_option maxHeartbeats 8000000 in
theorem raw_calls (k:Nat) (A0:Option Addr) (c0:Nat) (l:List S128) (w:World) (hr0:Kd.C k128 w A0 l.length l) (hc0:l.length ≤ c0) (hok:∀ o ∈ l,OpOK o) (b:Brd) (h:playF k l ⟨[],[]⟩ = some b) (hB:BOK b) (hlen:b.its.length ≤ 1073741824) (hWf:∀ x ∈ b.its,(Lit.int .i64 x.f0).wf = true) :
 Calls Try.prog 74 #[.slice A0 l.length c0] w (RawE w.heap.size w b):=by
 have hmm:=@run_makeMap Try.prog
 have HPL:Aside0 (Calls Try.prog 76 #[.slice A0 l.length c0] w fun e w'=>∃ B Bi Ba n gi ga,e = .returned (.pointer (some ⟨B,0,none⟩)) ∧ BoardIs w' w.heap.size B Bi Ba n gi ga b ∧ Below w.heap.size w w'):=⟨play_calls k A0 c0 l w hr0 hc0 hok b h⟩
 have HBK:=Aside0.mk hB
 have HLN:=Aside0.mk hlen
 have HWF:=Aside0.mk hWf
 clear hr0 hc0 hok h hB hlen hWf
 go_enter Try.func74,Try.ntmps74
 go_upto_region 4 with (go_at_call 76;(with_reducible refine HPL.out.mono ?_);rintro e1 w1 ⟨B,Bi,Ba,n,gi,ga,rfl,hbd,hbel⟩;have HBD:=Aside0.mk hbd;have HBL:=Aside0.mk hbel;clear hbd hbel)
 obtain ⟨w2,hw2⟩:∃ W,W = fillW w1:=⟨_,rfl⟩
 obtain ⟨base,hbase⟩:∃ m,m = w1.heap.size:=⟨_,rfl⟩
 have HLO:Aside0 (w.heap.size ≤ base):=⟨by rw [hbase];exact HBL.out.size⟩
 have HS2:Aside0 (w2.heap.size = base + 2):=⟨by rw [hw2,hbase];simp [fillW]⟩
 have HBD2:Aside0 (BoardIs w2 w.heap.size B Bi Ba n gi ga b):=⟨by rw [hw2];exact HBD.out.below (fillW_below w1)⟩
 have HST:Aside0 (∀ w3 cnt,RangeV w3 Bi (base + 2) n gi (fun i=>(gi i).isSome) cnt → w2.grownBy w3 none → FillB w.heap.size base B Bi Ba n (base + 1) base (base + 2) 0 gi ga b (fun i=>(gi i).isSome) cnt (fun _=>none) w3):=⟨fun w3 cnt h1 h2=>by
  rw [hbase] at h1 ⊢
  rw [hw2] at h2
  exact FillB.start HBD.out HBL.out.size h1 h2⟩
 have HB2:Aside0 (Below w.heap.size w w2):=⟨by rw [hw2];exact below_then HBL.out HBL.out.size (fillW_below w1)⟩
 have cB0:w2.cell? ⟨B,0,none⟩ = some (.map (some Bi)):=(blk_cell HBD2.out.blk 0).trans rfl
 have e_:fillW w1 = (w1.alloc (.map #[] 0)).alloc (.cells #[.map (some base)] 179):=by rw [hbase]
 rw [← hbase,← e_,← hw2]
 clear hw2 hbase HBD HBL e_ hmm HPL
 go_wp2_with (at_range;refine wp_range _ rfl _ 141 139 rfl Try.underlying141 Bi n gi rfl HBD2.out.mi ?_;intro w3 cnt hrg hg3 hs3;rw [HS2.out] at hrg ⊢;have HFB0:=Aside0.mk (HST.out w3 cnt hrg hg3);have HB3:=Aside0.mk (HB2.out.grown hg3 (Nat.le_trans HLO.out (by rw [HS2.out];omega)) (fun k hk=>by cases hk));have HB3s:Aside0 (base ≤ w3.heap.size):=⟨by have h1:=HS2.out;omega⟩;clear hrg hg3 hs3)
 clear cB0
 go_frame
 go_loopg [5] cnt (fun m v5 wr=>∃ (va:Value) (left:Int → Bool) (cn:Nat) (D:List S87) (gm:Int → Option Value),va = v5 ∧ Aside0 (cn ≤ m) ∧ Aside0 (D.Perm (b.its.filter (fun y=>!left y.f0))) ∧ Aside0 (FillB w.heap.size base B Bi Ba n (base + 1) base (base + 2) D.length gi ga b left cn gm wr) ∧ Aside0 (FillR base (slOf ga) gm wr va D D) ∧ Aside0 (Below w.heap.size w wr) ∧ Aside0 (base ≤ wr.heap.size))
 case atStart =>
  refine ⟨_,_,cnt,[],_,rfl,⟨Nat.le_refl _⟩,⟨?_⟩,HFB0,⟨FillR.start _ _ _⟩,HB3,HB3s⟩
  have:b.its.filter (fun y=>!(gi y.f0).isSome) = []:=List.filter_eq_nil_iff.2 fun y hy=>by
   rw [(HBD2.out.it y.f0).1,HBK.out.it_of hy]
   simp
  rw [this]
 case round =>
  obtain ⟨va,left,cn,D,gm,rfl,HC,HD,HFB,HFR,HB,HBS⟩:=hrel
  clear HB3 HB3s HFB0 HB2 HST HS2
  go_wp2_with (at_next;refine wp_next _ rfl _ rfl Bi (base + 2) n gi left cn rfl HFB.out.rg ?_ ?_)
  ·intro hl0
   have HDP:=Aside0.mk (left_done HD.out hl0)
   have hmm:=@run_makeMap Try.prog
   clear hl0 HC
   obtain ⟨nV,hnV⟩:∃ m,m = D.length:=⟨_,rfl⟩
   obtain ⟨AV,cV,eva,hcV⟩:=HFR.out.ra.slice
   rw [List.length_map,← hnV] at eva hcV
   subst eva
   have HNV:Aside0 (nV = D.length ∧ nV ≤ 1073741824 ∧ nV = (sortB ltN b.its).length ∧ D.Perm b.its):=⟨by
    have h1:=HDP.out.length_eq
    have h2:=(sortB_perm ltN b.its).length_eq
    have h3:=HLN.out
    exact ⟨hnV,by omega,by omega,HDP.out⟩⟩
   clear hnV hcV HDP HD
   go_upto_region 14 with (fail)
   obtain ⟨w5,hw5⟩:∃ W,W = walkW wr (base + 1):=⟨_,rfl⟩
   obtain ⟨m0,hm0⟩:∃ m,m = wr.heap.size:=⟨_,rfl⟩
   have HWS:Aside0 (WalkS base base (base + 1) m0 (m0 + 1 + 1) (m0 + 1 + 1 + 1) (m0 + 1) D.length gm (slOf ga) b (.slice AV nV cV) D (fun _=>False) w5 (.slice none 0 0) [] (fun _=>none)):=⟨by rw [hw5,hm0];exact WalkS.start HFB.out HFR.out HNV.out.2.2.2 HBS.out⟩
   have HB5:Aside0 (Below w.heap.size w w5):=⟨by rw [hw5];exact below_then HB.out (Nat.le_trans HLO.out HBS.out) (walkW_below _ _)⟩
   have HL5:Aside0 (w.heap.size ≤ w5.heap.size):=⟨HB5.out.size⟩
   have HAT5:Aside0 (∀ i,AtV w5 w.heap.size ((ga i).getD (.slice none 0 0)) (b.atD i)):=⟨by rw [hw5];exact (HFB.out.move (Kp.below (walkW_below _ _))).ats⟩
   have HVT:Aside0 (visitF (b.its.length + 1) b 0 [] = some (shownL b)):=⟨by
    have h1:=tree_len HBK.out (b.its.length + 1) 0
    have h2:=HLN.out
    have:=visit_tree HBK.out (b.its.length + 1) 0 0 (.stop (Int.le_refl _)) (by omega) [] (by simp only [List.length_nil];omega)
    rw [this]
    rfl⟩
   have HM0:Aside0 (base ≤ m0):=⟨by rw [hm0];exact HBS.out⟩
   have e_:walkW wr (base + 1) = (((wr.alloc (.cells #[.slice none 0 0] 70)).alloc (.map #[] 0)).alloc (.cells #[.map (some (m0 + 1))] 133)).alloc (.cells #[.func (.func 108) #[] #[.pointer (some ⟨base + 1,0,none⟩),.pointer (some ⟨m0,0,none⟩),.pointer (some ⟨m0 + 1 + 1,0,none⟩),.pointer (some ⟨m0 + 1 + 1 + 1,0,none⟩)]] 174):=by rw [hm0]
   rw [← hm0,← e_,← hw5]
   have cwb:w5.cell? ⟨m0 + 1 + 1 + 1,0,none⟩ = some (.func (.func 108) #[] #[.pointer (some ⟨base + 1,0,none⟩),.pointer (some ⟨m0,0,none⟩),.pointer (some ⟨m0 + 1 + 1,0,none⟩),.pointer (some ⟨m0 + 1 + 1 + 1,0,none⟩)]):=(blk_cell HWS.out.wb 0).trans rfl
   clear hw5 hm0 e_ hmm HFB HFR HB HBS
   go_upto_region 15 with (go_at_call 108;(with_reducible refine (walk_calls HLO.out HBK.out HWF.out (b.its.length + 1) 0 [] (shownL b) w5 _ _ _ (by decide) HL5.out HLN.out HWS.out HVT.out).mono ?_);rintro e6 w6 ⟨rfl,done6,vo6,gs6,hd6,hW6,hF6⟩;have HW6:=Aside0.mk hW6;have HF6:=Aside0.mk hF6;clear hd6 hW6 hF6)
   have HAT6:Aside0 (∀ i,AtV w6 w.heap.size ((ga i).getD (.slice none 0 0)) (b.atD i)):=⟨fun i=>AtV.move (HAT5.out i) HF6.out.at91⟩
   have HB6:=Aside0.mk (HB5.out.trans HF6.out.bel)
   have HS6:Aside0 (base ≤ w6.heap.size):=⟨by have h1:=blk_lt HW6.out.ob;have h2:=HM0.out;omega⟩
   have HGS:=Aside0.mk HW6.out.gsE
   have HSRT:Aside0 (Calls Try.prog 109 #[.slice AV nV cV,.func (.func 114) #[] #[]] w6 fun e w'=>e = .returned (.tuple #[]) ∧ RestS base m0 (m0 + 1 + 1) (m0 + 1) (shownL b).length gs6 (slOf ga) (.slice AV nV cV) (sortB ltN b.its) w' vo6 (shownL b) ∧ (∀ i,AtV w' w.heap.size ((ga i).getD (.slice none 0 0)) (b.atD i)) ∧ Below w.heap.size w w' ∧ base ≤ w'.heap.size):=by
    refine ⟨(sort_calls 114 cmpN swoN (enters_of Try.func114 (by kernel_rfl) rfl) cmpn_calls _ base _ w6 HW6.out.ra (by rw [List.length_map];have:=HNV.out;omega)).mono ?_⟩
    rintro e w' ⟨rfl,L1,h1,h2,h3,h4⟩
    obtain rfl:=sorted_all HBK.out (slOf ga) HNV.out.2.2.2 h1 h2
    have hkp:=Kp.of HW6.out.ra h4
    refine ⟨rfl,HW6.out.rest h4 h3,fun i=>AtV.move (HAT6.out i) (fun k cells hc=>(hkp k _ hc (fun _ e=>by injection e with _ e;exact absurd e (by decide))).trans hc.symm),HB6.out.grown h4 (Nat.le_trans HLO.out HS6.out) (fun k hk=>Nat.le_trans HLO.out (HW6.out.ra.cells hk).1),Nat.le_trans HS6.out h4.size⟩
   obtain ⟨S0,hS0⟩:∃ L,L = shownL b:=⟨_,rfl⟩
   obtain ⟨L0,hL0⟩:∃ L,L = sortB ltN b.its:=⟨_,rfl⟩
   have HOE:Aside0 (orderL b = S0 ++ L0.filter (fun x=>!isIn S0 x.f0)):=⟨by rw [hS0,hL0];rfl⟩
   have HWL:Aside0 (∀ x ∈ L0,(Lit.int .i64 x.f0).wf = true):=⟨fun x hx=>HWF.out x ((sortB_perm ltN b.its).mem_iff.1 (hL0 ▸ hx))⟩
   have HNL:Aside0 (nV = L0.length ∧ nV ≤ 1073741824 ∧ S0.length ≤ 1073741824):=⟨by have h1:=HNV.out;rw [hL0,hS0];have h2:=tree_len HBK.out (b.its.length + 1) 0;have h3:=HLN.out;exact ⟨h1.2.2.1,h1.2.1,Nat.le_trans h2 h3⟩⟩
   rw [← hS0,← hL0] at HSRT
   rw [← hS0] at HGS
   clear cwb hS0 hL0 HWS HB5 HL5 HAT5 HVT HW6 HF6 HAT6 HB6 HS6 HNV
   go_wp2_with (go_at_call 109;(with_reducible refine HSRT.out.mono ?_);rintro e7 w7 ⟨rfl,hR7,hA7,hB7,hS7⟩;have HR7:=Aside0.mk hR7;have HA7:=Aside0.mk hA7;have HB7:=Aside0.mk hB7;have HS7:=Aside0.mk hS7;clear hR7 hA7 hB7 hS7)
   clear HSRT
   go_loopg [65] nV (fun m v65 wx=>∃ (j:Nat) (vo:Value),v65 = .int .i64 (j:Int) ∧ Aside0 (m + j = nV) ∧ Aside0 (RestS base m0 (m0 + 1 + 1) (m0 + 1) S0.length gs6 (slOf ga) (.slice AV nV cV) L0 wx vo (S0 ++ (L0.take j).filter (fun x=>!isIn S0 x.f0))) ∧ Aside0 (∀ i,AtV wx w.heap.size ((ga i).getD (.slice none 0 0)) (b.atD i)) ∧ Aside0 (Below w.heap.size w wx) ∧ Aside0 (base ≤ wx.heap.size))
   case atStart=>exact ⟨0,vo6,rfl,⟨rfl⟩,⟨by simpa using HR7.out⟩,HA7,HB7,HS7⟩
   case round =>
    obtain ⟨j,vo,rfl,HJ,HR,HA,HB,HS⟩:=hrel
    clear HR7 HA7 HB7 HS7
    have cob:wr.cell? ⟨m0,0,none⟩ = some vo:=(blk_cell HR.out.ob 0).trans rfl
    by_cases d1:j < nV
    rotate_left
    ·have g1:decide ((j:Int) < (nV:Int)) = false:=decide_eq_false (by omega)
     have g1':decide (j < nV) = false:=decide_eq_false d1
     have HX:Aside0 (RestS base m0 (m0 + 1 + 1) (m0 + 1) S0.length gs6 (slOf ga) (.slice AV nV cV) L0 wr vo (orderL b)):=⟨by
      have h1:=HR.out
      rw [List.take_of_length_le (by have:=HNL.out.1;omega)] at h1
      rw [HOE.out]
      exact h1⟩
     clear d1
     go_wp2
     go_ret
     exact ⟨vo,rfl,rows_R HLO.out HX.out.ro HA.out,HB.out⟩
    have g1:decide ((j:Int) < (nV:Int)) = true:=decide_eq_true (by omega)
    have g1':decide (j < nV) = true:=decide_eq_true d1
    have q1:(j:Int) < (nV:Int):=by omega
    obtain ⟨gl,rfl⟩:∃ gl,gk = gl + 1:=⟨gk - 1,by have:=HJ.out;omega⟩
    have hjl:j < L0.length:=by have:=HNL.out.1;omega
    obtain ⟨x,hx⟩:∃ x,x = L0[j]'hjl:=⟨_,rfl⟩
    have HXM:Aside0 ((Lit.int .i64 x.f0).wf = true):=⟨HWL.out x (hx ▸ List.getElem_mem hjl)⟩
    obtain ⟨ad,eA,x0,x1,x2,x3⟩:=HR.out.ra.at j (by rw [List.length_map];exact hjl)
    subst eA
    have hxe:(L0.map (mk4 (slOf ga)))[j]'(by rw [List.length_map];exact hjl) = mk4 (slOf ga) x:=by rw [List.getElem_map,← hx]
    rw [hxe] at x0 x1 x2 x3
    replace x0:wr.cell? (ad.add (j * 4)) = some (.int .i64 x.f0):=x0
    replace x1:wr.cell? ⟨(ad.add (j * 4)).block,(ad.add (j * 4)).off + 1,none⟩ = some (.int .i64 x.f1):=x1
    replace x2:wr.cell? ⟨(ad.add (j * 4)).block,(ad.add (j * 4)).off + 2,none⟩ = some (.string x.f2):=x2
    obtain ⟨SA,hSA⟩:∃ S,S = (mk4 (slOf ga) x).A:=⟨_,rfl⟩
    obtain ⟨Sn,hSn⟩:∃ S,S = (mk4 (slOf ga) x).n:=⟨_,rfl⟩
    obtain ⟨Sc,hSc⟩:∃ S,S = (mk4 (slOf ga) x).c:=⟨_,rfl⟩
    have HSL:Aside0 (mk4 (slOf ga) x = ⟨x.f0,x.f1,x.f2,SA,Sn,Sc⟩):=⟨by rw [hSA,hSn,hSc];rfl⟩
    rw [← hSA,← hSn,← hSc] at x3
    have HTK:Aside0 ((L0.take (j + 1)).filter (fun x=>!isIn S0 x.f0) = (L0.take j).filter (fun x=>!isIn S0 x.f0) ++ (if isIn S0 x.f0 = true then [] else [x])):=⟨by
     rw [List.take_succ_eq_append_getElem hjl,← hx,List.filter_append]
     congr 1
     rw [List.filter_cons,List.filter_nil]
     cases isIn S0 x.f0 <;> rfl⟩
    have HOL:Aside0 ((S0 ++ (L0.take j).filter (fun x=>!isIn S0 x.f0)).length ≤ 2147483648):=⟨by
     rw [List.length_append]
     have h1:=List.length_filter_le (fun x:S87=>!isIn S0 x.f0) (L0.take j)
     have h2:(L0.take j).length ≤ j:=List.length_take_le _ _
     have h3:=HNL.out
     omega⟩
    obtain ⟨out1,ho1⟩:∃ o,o = S0 ++ (L0.take j).filter (fun x=>!isIn S0 x.f0):=⟨_,rfl⟩
    have HTO:Aside0 (S0 ++ (L0.take (j + 1)).filter (fun x=>!isIn S0 x.f0) = out1 ++ (if isIn S0 x.f0 = true then [] else [x])):=⟨by rw [HTK.out,ho1,List.append_assoc]⟩
    rw [← ho1] at HR HOL
    clear hx hxe hSA hSn hSc hjl ho1 HTK
    go_upto_region 19 with (fail)
    obtain ⟨w8,hw8⟩:∃ W,W = wr.alloc (Obj.cells #[.int .i64 x.f0,.int .i64 x.f1,.string x.f2,.slice SA Sn Sc] 87):=⟨_,rfl⟩
    obtain ⟨g,hgn⟩:∃ g,g = wr.heap.size:=⟨_,rfl⟩
    have hbl:Below wr.heap.size wr w8:=by rw [hw8];exact below_alloc (Below.refl _ _) _
    have HG8:Aside0 (w8.heap[g]? = some (.cells #[.int .i64 x.f0,.int .i64 x.f1,.string x.f2,.slice SA Sn Sc] 87 (0,0))):=⟨by rw [hw8,hgn];exact blk_new wr _⟩
    have HR8:=Aside0.mk (HR.out.below hbl)
    have HA8:Aside0 (∀ i,AtV w8 w.heap.size ((ga i).getD (.slice none 0 0)) (b.atD i)):=⟨fun i=>AtV.move (HA.out i) (fun k cells hc=>hbl.block k (blk_lt hc))⟩
    have HB8:=Aside0.mk (below_then HB.out (Nat.le_trans HLO.out HS.out) hbl)
    have HS8:Aside0 (base ≤ w8.heap.size):=⟨Nat.le_trans HS.out hbl.size⟩
    rw [← hw8,← hgn]
    have wk:wrap64 ((j:Int) + 1) = (j:Int) + 1:=by have:=HNL.out.2.1;unfold wrap64;omega
    have HWK:=Aside0.mk wk
    have csb:w8.cell? ⟨m0 + 1 + 1,0,none⟩ = some (.map (some (m0 + 1))):=(blk_cell HR8.out.sb 0).trans rfl
    have cob8:w8.cell? ⟨m0,0,none⟩ = some vo:=(blk_cell HR8.out.ob 0).trans rfl
    have cg0:w8.cell? ⟨g,0,none⟩ = some (.int .i64 x.f0):=(blk_cell HG8.out 0).trans rfl
    have cg1:w8.cell? ⟨g,1,none⟩ = some (.int .i64 x.f1):=(blk_cell HG8.out 1).trans rfl
    have cg2:w8.cell? ⟨g,2,none⟩ = some (.string x.f2):=(blk_cell HG8.out 2).trans rfl
    have cg3:w8.cell? ⟨g,3,none⟩ = some (.slice SA Sn Sc):=(blk_cell HG8.out 3).trans rfl
    clear hw8 hgn hbl HR HA HB HS x0 x1 x2 x3 cob wk
    cases hin:isIn S0 x.f0 with
    | true =>
     have HLK:Aside0 ((gs6 x.f0).getD (.bool false) = .bool true):=⟨by rw [HGS.out,hin];rfl⟩
     have HT2:Aside0 (S0 ++ (L0.take (j + 1)).filter (fun x=>!isIn S0 x.f0) = out1):=⟨by rw [HTO.out,hin];simp⟩
     clear hin
     go_wp2_with (at_lookup;refine wp_look _ rfl _ _ 133 4 rfl Try.underlying133 _ (zero4 _) (m0 + 1) S0.length gs6 rfl HR8.out.ms x.f0 rfl HXM.out _ HLK.out ?_)
     have wk:=HWK.out
     go_roundg gl
     case measure=>omega
     case rel=>exact ⟨j + 1,vo,by simp [wk],⟨by have:=HJ.out;omega⟩,⟨by rw [HT2.out];exact HR8.out⟩,HA8,HB8,HS8⟩
    | false =>
     have HLK:Aside0 ((gs6 x.f0).getD (.bool false) = .bool false):=⟨by rw [HGS.out,hin];rfl⟩
     have HT2:Aside0 (S0 ++ (L0.take (j + 1)).filter (fun x=>!isIn S0 x.f0) = out1 ++ [x]):=⟨by rw [HTO.out,hin];rfl⟩
     clear hin
     go_wp2_with (first | (at_lookup;refine wp_look _ rfl _ _ 133 4 rfl Try.underlying133 _ (zero4 _) (m0 + 1) S0.length gs6 rfl HR8.out.ms x.f0 rfl HXM.out _ HLK.out ?_) | (at_builtin;refine print_append_cells (w0:=w8) (W:=w8) base rfl (.tmp 74) (.tmp 76) 70 87 (.agg #[.int .i64 0,.int .i64 0,.string ⟨#[]⟩,.slice none 0 0]) 4 56 rfl Try.underlying70 info87i rfl (by decide) (by decide) vo (out1.map (mk4 (slOf ga))).length ((out1.map (mk4 (slOf ga))).flatMap enc4) [.int .i64 x.f0,.int .i64 x.f1,.string x.f2,.slice SA Sn Sc] rfl rfl rfl (by simp [Value.oneCell']) HR8.out.ro (Below.refl _ _) HS8.out (by have:=HOL.out;rw [List.length_map];omega) ?_;intro vn w9 hr9 hb9 hg9 ha9;have hR9:RowIs w9 base vn ((out1 ++ [x]).map (mk4 (slOf ga))):=rowSnoc HSL.out hr9;obtain ⟨AN,nN,cN,ev⟩:∃ A m c,vn = .slice A m c:=(by obtain ⟨A,c,e,_⟩:=hR9.slice;exact ⟨A,_,c,e⟩);subst ev;have HR9:=Aside0.mk (HR8.out.append hR9 hg9 ha9);have HKP:=Aside0.mk (Kp.of HR8.out.ro hg9);have HB9:=Aside0.mk (HB8.out.grown hg9 (Nat.le_trans HLO.out HS8.out) (fun k hk=>Nat.le_trans HLO.out (HR8.out.ro.cells hk).1));have HS9:Aside0 (base ≤ w9.heap.size):=⟨Nat.le_trans HS8.out hg9.size⟩;have cob9:w9.cell? ⟨m0,0,none⟩ = some vo:=(blk_cell HR9.out.1 0).trans rfl;have cobf:=blk_frozen HR9.out.1 0;clear hr9 hb9 hg9 ha9 hR9 csb cob8 cg0 cg1 cg2 cg3))
     have wk:=HWK.out
     go_roundg gl
     case measure=>omega
     case rel =>
      refine ⟨j + 1,.slice AN nN cN,by simp [wk],⟨by have:=HJ.out;omega⟩,⟨by rw [HT2.out];exact HR9.out.2⟩,⟨fun i=>AtV.move (HA8.out i) (fun k cells hc=>?_)⟩,⟨HB9.out.setCell (by have h1:=HM0.out;have h2:=HLO.out;simp only;omega) _⟩,⟨by have:=HS9.out;simpa using this⟩⟩
      have hk:=HKP.out k _ hc (fun _ e=>by injection e with _ e;exact absurd e (by decide))
      refine ((Below.heap_setCell w9 ⟨m0,0,none⟩ (.slice AN nN cN) k (fun e=>?_)).trans hk).trans hc.symm
      rw [show k = m0 from e,HR9.out.1] at hk
      injection hk with hk
      injection hk with _ hk
      exact absurd hk (by decide)
  ·intro i v w4 cn4 hwf hlf hgi hrg4 hlt hg4 hs4 hen
   obtain ⟨x,hx⟩:∃ x,b.it i = some x:=Option.isSome_iff_exists.1 (by rw [← (HFB.out.its i).1,hgi];rfl)
   obtain rfl:=it_f0 hx
   obtain ⟨hw1,p,u,rfl,hlp,hpb,hpk⟩:=(HFB.out.its x.f0).2 v x hgi hx
   obtain ⟨_,_,_,hit⟩:=HFB.out.rg.iter
   have HP4:Aside0 (w4.heap[p]? = some (.cells #[.int .i64 x.f0,.int .i64 x.f1,.string x.f2,u] 87 (0,0))):=⟨(hg4.block p (blk_lt hpk) (fun e=>by injection e with e;omega)).trans hpk⟩
   have HFB4:=Aside0.mk (HFB.out.next hrg4 hg4)
   have HFR4:=Aside0.mk (HFR.out.next HFB.out.rg hg4)
   have HB4:=Aside0.mk (HB.out.grown hg4 (Nat.le_trans HLO.out HBS.out) (fun k hk=>by cases hk;have:=HLO.out;omega))
   have HS4:Aside0 (base ≤ w4.heap.size):=⟨by have:=HBS.out;have:=hg4.size;omega⟩
   have HX:=Aside0.mk (And.intro (it_mem hx).1 (And.intro hlf hw1))
   have HPB:=Aside0.mk (And.intro hlp hpb)
   have HWI:=Aside0.mk hwf
   have HLT:=Aside0.mk hlt
   have HD4:=Aside0.mk (left_step HD.out HBK.out.nd (it_mem hx).1 hlf)
   obtain ⟨SA,Sc,hat,_⟩:=(HFB.out.ats x.f0).reads
   obtain ⟨Sn,hSn⟩:∃ m,m = (b.atD x.f0).length:=⟨_,rfl⟩
   rw [← hSn] at hat
   have HLK:=Aside0.mk hat
   have HSL:Aside0 (mk4 (slOf ga) x = ⟨x.f0,x.f1,x.f2,SA,Sn,Sc⟩):=⟨by unfold mk4 slOf;rw [hat]⟩
   have cB1:w4.cell? ⟨B,1,none⟩ = some (.map (some Ba)):=(blk_cell HFB4.out.blk 1).trans rfl
   have cp3:w4.cell? ⟨p,3,none⟩ = some u:=(blk_cell HP4.out 3).trans rfl
   have cpf:=blk_frozen HP4.out 3
   clear hx hw1 hlp hpb hpk hit hwf hlf hgi hrg4 hlt hg4 hs4 hSn hat HFB HFR HB HBS HD
   go_upto_region 8 with (at_lookup;refine wp_look _ rfl _ _ 142 24 rfl Try.underlying142 _ (zero24 _) Ba n ga rfl HFB4.out.ma x.f0 rfl HWI.out _ HLK.out ?_)
   clear hen cB1 cp3 cpf
   obtain ⟨w5,hw5⟩:∃ W,W = w4.setCell ⟨p,3,none⟩ (.slice SA Sn Sc):=⟨_,rfl⟩
   have HP5:Aside0 (w5.drew.heap[p]? = some (.cells #[.int .i64 x.f0,.int .i64 x.f1,.string x.f2,.slice SA Sn Sc] 87 (0,0))):=⟨by rw [hw5];exact blk_drew (by have:=blk_set HP4.out 3 (.slice SA Sn Sc);simpa using this)⟩
   have HFB5:Aside0 (FillB w.heap.size base B Bi Ba n (base + 1) base (base + 2) D.length gi ga b (fun j=>left j && !decide (j = x.f0)) cn4 gm w5.drew):=⟨by rw [hw5];exact (HFB4.out.store HP4.out _).move (Kp.below (below_drew (Below.refl _ _)))⟩
   have HFR5:Aside0 (FillR base (slOf ga) gm w5.drew va D D):=⟨by rw [hw5];exact (HFR4.out.store HPB.out.2 _ _).below (below_drew (Below.refl _ _))⟩
   have HB5:Aside0 (Below w.heap.size w w5.drew):=⟨by rw [hw5];exact below_drew (HB4.out.setCell HPB.out.1 _)⟩
   have HS5:Aside0 (base ≤ w5.drew.heap.size):=⟨by rw [hw5];have:=HS4.out;simpa using this⟩
   rw [← hw5]
   clear hw5 HP4 HFB4 HFR4 HB4 HS4
   obtain ⟨vk,hvk⟩:∃ v,v = (gm x.f1).getD (.slice none 0 0):=⟨_,rfl⟩
   have HVK:=Aside0.mk hvk.symm
   have HRK:Aside0 (RowIs w5.drew base vk ((D.filter (fun y:S87=>y.f1 == x.f1)).map (mk4 (slOf ga)))):=⟨by rw [hvk];exact HFR5.out.kids x.f1⟩
   have HDL:Aside0 (D.length ≤ 1073741824 ∧ (D.filter (fun y:S87=>y.f1 == x.f1)).length ≤ 1073741824):=⟨by
    have h1:=HD4.out.length_eq
    have h2:=List.length_filter_le (fun y=>!(left y.f0 && !decide (y.f0 = x.f0))) b.its
    have h3:=List.length_filter_le (fun y:S87=>y.f1 == x.f1) D
    have:=HLN.out
    rw [List.length_append] at h1
    omega⟩
   clear hvk
   refine start_ (n:=17) (S:=fun w'=>w'.cell? ⟨base + 1,0,none⟩ = some (.map (some base)) ∧ w'.cell? ⟨p,0,none⟩ = some (.int .i64 x.f0) ∧ w'.cell? ⟨p,1,none⟩ = some (.int .i64 x.f1) ∧ w'.cell? ⟨p,2,none⟩ = some (.string x.f2) ∧ w'.cell? ⟨p,3,none⟩ = some (.slice SA Sn Sc) ∧ Sem.run Try.prog (Instr.lookup 179 (.map (some base)) (.int .i64 x.f1) false) w' = .ok vk w') (ds:=[16]) #[false,false,false,false,false,false,false,false,false,false,false,false,false,false,false,false,false] (by kernel_rfl) rfl rfl ⟨((blk_cell HFB5.out.kb 0).trans rfl),((blk_cell HP5.out 0).trans rfl),((blk_cell HP5.out 1).trans rfl),((blk_cell HP5.out 2).trans rfl),((blk_cell HP5.out 3).trans rfl),(MapV.run HFB5.out.mK Try.underlying179 (zero70 _) x.f1 HX.out.2.2 HVK.out)⟩ (fun hHeld=>?_)
   refine pure_ (i:=1) (N:=some 36) (v:=?_) (a':=?_) (bm 2 17) rfl rfl (by kernel_rfl) (fun _ _ _ h=>h) (Or.inl ⟨by rfl,?_⟩) ?_ ?_
   rotate_left
   ·intro w'
    go_simp
    with_reducible rfl
   rotate_left
   ·simp only [Act.put,sA,sB,sC,i64_w,i32_w]
    rfl
   refine pure_ (i:=2) (N:=some 37) (v:=?_) (a':=?_) (bm 6 17) rfl rfl (by kernel_rfl) (fun _ _ _ h=>h) (Or.inl ⟨by rfl,?_⟩) ?_ ?_
   rotate_left
   ·intro w'
    go_simp
    with_reducible rfl
   rotate_left
   ·simp only [Act.put,sA,sB,sC,i64_w,i32_w]
    rfl
   refine pure_ (i:=3) (N:=some 38) (v:=?_) (a':=?_) (bm 14 17) rfl rfl (by kernel_rfl) (fun _ _ _ h=>h) (Or.inl ⟨by rfl,?_⟩) ?_ ?_
   rotate_left
   ·intro w'
    go_simp
    with_reducible rfl
   rotate_left
   ·simp only [Act.put,sA,sB,sC,i64_w,i32_w]
    rfl
   refine pure_ (i:=6) (N:=some 41) (v:=?_) (a':=?_) (bm 78 17) rfl rfl (by kernel_rfl) (fun _ _ _ h=>h) (Or.inl ⟨by rfl,?_⟩) ?_ ?_
   rotate_left
   ·intro w'
    go_simp
    with_reducible rfl
   rotate_left
   ·simp only [Act.put,sA,sB,sC,i64_w,i32_w]
    rfl
   refine pure_ (i:=7) (N:=some 42) (v:=?_) (a':=?_) (bm 206 17) rfl rfl (by kernel_rfl) (fun _ _ _ h=>h) (Or.inl ⟨by rfl,?_⟩) ?_ ?_
   rotate_left
   ·intro w'
    go_simp
    with_reducible rfl
   rotate_left
   ·simp only [Act.put,sA,sB,sC,i64_w,i32_w]
    rfl
   refine pure_ (i:=8) (N:=some 43) (v:=?_) (a':=?_) (bm 462 17) rfl rfl (by kernel_rfl) (fun _ _ _ h=>h) (Or.inl ⟨by rfl,?_⟩) ?_ ?_
   rotate_left
   ·intro w'
    go_simp
    with_reducible rfl
   rotate_left
   ·simp only [Act.put,sA,sB,sC,i64_w,i32_w]
    rfl
   refine pure_ (i:=11) (N:=some 46) (v:=?_) (a':=?_) (bm 2510 17) rfl rfl (by kernel_rfl) (fun _ _ _ h=>h) (Or.inl ⟨by rfl,?_⟩) ?_ ?_
   rotate_left
   ·intro w'
    go_simp
    with_reducible rfl
   rotate_left
   ·simp only [Act.put,sA,sB,sC,i64_w,i32_w]
    rfl
   refine pure_ (i:=12) (N:=some 47) (v:=?_) (a':=?_) (bm 6606 17) rfl rfl (by kernel_rfl) (fun _ _ _ h=>h) (Or.inl ⟨by rfl,?_⟩) ?_ ?_
   rotate_left
   ·intro w'
    go_simp
    with_reducible rfl
   rotate_left
   ·simp only [Act.put,sA,sB,sC,i64_w,i32_w]
    rfl
   refine take_ (i:=0) (N:=some 35) (v:=?_) (a':=?_) (bm 6607 17) rfl rfl (by kernel_rfl) (fun _ _ _ h=>h) (Or.inl ⟨by rfl,?_⟩) hHeld ?_ ?_
   rotate_left
   ·rintro w' ⟨s0,s1,s2,s3,s4,s5⟩
    go_simp
    with_reducible rfl
   rotate_left
   ·simp only [Act.put,sA,sB,sC,i64_w,i32_w]
    rfl
   refine take_ (i:=4) (N:=some 39) (v:=?_) (a':=?_) (bm 6623 17) rfl rfl (by kernel_rfl) (fun _ _ _ h=>h) (Or.inl ⟨by rfl,?_⟩) hHeld ?_ ?_
   rotate_left
   ·rintro w' ⟨s0,s1,s2,s3,s4,s5⟩
    go_simp
    with_reducible rfl
   rotate_left
   ·simp only [Act.put,sA,sB,sC,i64_w,i32_w]
    rfl
   refine take_ (i:=5) (N:=some 40) (v:=?_) (a':=?_) (bm 6655 17) rfl rfl (by kernel_rfl) (fun _ _ _ h=>h) (Or.inl ⟨by rfl,?_⟩) hHeld ?_ ?_
   rotate_left
   ·rintro w' ⟨s0,s1,s2,s3,s4,s5⟩
    go_simp
    with_reducible rfl
   rotate_left
   ·simp only [Act.put,sA,sB,sC,i64_w,i32_w]
    rfl
   refine take_ (i:=9) (N:=some 44) (v:=?_) (a':=?_) (bm 7167 17) rfl rfl (by kernel_rfl) (fun _ _ _ h=>h) (Or.inl ⟨by rfl,?_⟩) hHeld ?_ ?_
   rotate_left
   ·rintro w' ⟨s0,s1,s2,s3,s4,s5⟩
    go_simp
    with_reducible rfl
   rotate_left
   ·simp only [Act.put,sA,sB,sC,i64_w,i32_w]
    rfl
   refine take_ (i:=10) (N:=some 45) (v:=?_) (a':=?_) (bm 8191 17) rfl rfl (by kernel_rfl) (fun _ _ _ h=>h) (Or.inl ⟨by rfl,?_⟩) hHeld ?_ ?_
   rotate_left
   ·rintro w' ⟨s0,s1,s2,s3,s4,s5⟩
    go_simp
    with_reducible rfl
   rotate_left
   ·simp only [Act.put,sA,sB,sC,i64_w,i32_w]
    rfl
   refine take_ (i:=13) (N:=some 48) (v:=?_) (a':=?_) (bm 16383 17) rfl rfl (by kernel_rfl) (fun _ _ _ h=>h) (Or.inl ⟨by rfl,?_⟩) hHeld ?_ ?_
   rotate_left
   ·rintro w' ⟨s0,s1,s2,s3,s4,s5⟩
    go_simp
    with_reducible rfl
   rotate_left
   ·simp only [Act.put,sA,sB,sC,i64_w,i32_w]
    rfl
   refine one_ (i:=14) (N:=some 49) (bm 32767 17) rfl rfl (by kernel_rfl) (by decide) (fun K hK=>?_)
   refine value_ (w1:=?_) (v:=?_) (by rfl) rfl ?_ ?_
   rotate_left 2
   ·go_simp
    constructor
    ·rfl
    ·rfl
   refine hK.out _ _ ⟨((blk_cell (blk_alloc HFB5.out.kb _) 0).trans rfl),((blk_cell (blk_alloc HP5.out _) 0).trans rfl),((blk_cell (blk_alloc HP5.out _) 1).trans rfl),((blk_cell (blk_alloc HP5.out _) 2).trans rfl),((blk_cell (blk_alloc HP5.out _) 3).trans rfl),(MapV.run (HFB5.out.mK.block ((below_alloc (Below.refl _ _) _).block _ HFB5.out.mK.lt)) Try.underlying179 (zero70 _) x.f1 HX.out.2.2 HVK.out)⟩ (fun hHeld=>?_)
   clear hK K
   refine norm_ (a':=?_) ?_ ?_
   rotate_left
   ·show Act.put _ (some 49) _ = _
    simp only [Act.put,sA,sB,sC,i64_w,i32_w]
    rfl
   refine one_ (i:=15) (N:=some 50) (bm 65535 17) rfl rfl (by kernel_rfl) (by decide) (fun K hK=>?_)
   refine step_append_cells (P:=Try.prog) (w0:=w5.drew) (W:=w5.drew) base (by rfl) (.tmp 45) (.tmp 49) 70 87 (.agg #[.int .i64 0,.int .i64 0,.string ⟨#[]⟩,.slice none 0 0]) 4 56 rfl Try.underlying70 info87i rfl (by decide) (by decide) vk ((D.filter (fun y:S87=>y.f1 == x.f1)).map (mk4 (slOf ga))).length (((D.filter (fun y:S87=>y.f1 == x.f1)).map (mk4 (slOf ga))).flatMap enc4) [.int .i64 x.f0,.int .i64 x.f1,.string x.f2,.slice SA Sn Sc] rfl rfl rfl (by simp [Value.oneCell']) HRK.out (Below.refl _ _) HS5.out (by have:=HDL.out.2;rw [List.length_map];omega) ?_
   intro vn w6 hr6 hb6 hg6 ha6
   have hR:RowIs w6 base vn ((D.filter (fun y:S87=>y.f1 == x.f1) ++ [x]).map (mk4 (slOf ga))):=rowSnoc HSL.out hr6
   have HFB6:=Aside0.mk (HFB5.out.move (Kp.of HRK.out hg6))
   have hg6':=hg6
   rw [← HVK.out] at hg6' ha6
   have HFR6:=Aside0.mk (HFR5.out.appK hR hg6' ha6)
   have HP6:=Aside0.mk (Kp.of HRK.out hg6 _ _ HP5.out (fun _ _=>HPB.out.2))
   have HB6:=Aside0.mk (HB5.out.grown hg6 (Nat.le_trans HLO.out HS5.out) (fun k hk=>Nat.le_trans HLO.out (HRK.out.cells hk).1))
   have HS6:Aside0 (base ≤ w6.heap.size):=⟨Nat.le_trans HS5.out hg6.size⟩
   clear hr6 hb6 hg6 hg6' ha6 hR HFB5 HFR5 HP5 HB5 HS5 HRK
   refine hK.out _ _ ⟨((blk_cell HFB6.out.kb 0).trans rfl),((blk_cell HP6.out 0).trans rfl),((blk_cell HP6.out 1).trans rfl),((blk_cell HP6.out 2).trans rfl),((blk_cell HP6.out 3).trans rfl),(MapV.run HFB6.out.mK Try.underlying179 (zero70 _) x.f1 HX.out.2.2 HVK.out)⟩ (fun hHeld=>?_)
   clear hK K
   refine norm_ (a':=?_) ?_ ?_
   rotate_left
   ·show Act.put _ (some 50) _ = _
    simp only [Act.put,sA,sB,sC,i64_w,i32_w]
    rfl
   refine last_ (i:=16) (N:=none) (bm 131071 17) rfl rfl (by kernel_rfl) (by decide) (fun K hK=>?_)
   obtain ⟨_,_,hmp⟩:=HFB6.out.mK.map
   have HMP:=Aside0.mk hmp
   clear hmp
   refine step_store _ (by rfl) (.tmp 35) (.tmp 39) (.tmp 50) 179 70 rfl Try.underlying179 base D.length gm rfl HFB6.out.mK (by have:=HDL.out.1;simp only [maxLen];omega) x.f1 rfl HX.out.2.2 _ rfl ?_
   intro w8 hm8 hg8 hs8
   have HFE:=Aside0.mk (And.intro (HFB6.out.put hm8 hg8) (HFR6.out.mapped HMP.out hg8))
   have HBE:=Aside0.mk (HB6.out.grown hg8 (Nat.le_trans HLO.out HS6.out) (fun k hk=>by cases hk;exact HLO.out))
   have HSE:Aside0 (base ≤ w8.heap.size):=⟨Nat.le_trans HS6.out hg8.size⟩
   have HPE:=Aside0.mk ((grown_move HMP.out hg8 _ _ _ HP6.out).trans HP6.out)
   clear hm8 hg8 hs8
   refine hK.out _ _ ?_
   clear hK K
   refine done_ (by kernel_rfl) ?_
   clear hHeld
   have cp0:w8.cell? ⟨p,0,none⟩ = some (.int .i64 x.f0):=(blk_cell HPE.out 0).trans rfl
   have cp1:w8.cell? ⟨p,1,none⟩ = some (.int .i64 x.f1):=(blk_cell HPE.out 1).trans rfl
   have cp2:w8.cell? ⟨p,2,none⟩ = some (.string x.f2):=(blk_cell HPE.out 2).trans rfl
   have cp3:w8.cell? ⟨p,3,none⟩ = some (.slice SA Sn Sc):=(blk_cell HPE.out 3).trans rfl
   go_wp2_with (at_builtin;refine print_append_cells (w0:=w8) (W:=w8) base rfl (.tmp 51) (.tmp 55) 70 87 (.agg #[.int .i64 0,.int .i64 0,.string ⟨#[]⟩,.slice none 0 0]) 4 56 rfl Try.underlying70 info87i rfl (by decide) (by decide) va (D.map (mk4 (slOf ga))).length ((D.map (mk4 (slOf ga))).flatMap enc4) [.int .i64 x.f0,.int .i64 x.f1,.string x.f2,.slice SA Sn Sc] rfl rfl rfl (by simp [Value.oneCell']) HFE.out.2.ra (Below.refl _ _) HSE.out (by have:=HDL.out.1;rw [List.length_map];omega) ?_;intro vn w9 hr9 hb9 hg9 ha9;have HR9:Aside0 (RowIs w9 base vn ((D ++ [x]).map (mk4 (slOf ga)))):=⟨rowSnoc HSL.out hr9⟩;have HFR9:=Aside0.mk (HFE.out.2.appA HR9.out hg9 ha9);have HFB9:=Aside0.mk (HFE.out.1.move (Kp.of HFE.out.2.ra hg9));have HB9:=Aside0.mk (HBE.out.grown hg9 (Nat.le_trans HLO.out HSE.out) (fun k hk=>Nat.le_trans HLO.out (HFE.out.2.ra.cells hk).1));have HS9:Aside0 (base ≤ w9.heap.size):=⟨Nat.le_trans HSE.out hg9.size⟩;clear hr9 hb9 hg9 ha9 HFE HBE HSE HPE)
   obtain ⟨gl,rfl⟩:∃ gl,gk = gl + 1:=⟨gk - 1,by have h1:=HC.out;have h2:=HLT.out;omega⟩
   go_roundg gl
   case measure=>omega
   case rel =>
    refine ⟨_,fun j=>left j && !decide (j = x.f0),cn4,D ++ [x],_,rfl,⟨by have h1:=HC.out;have h2:=HLT.out;omega⟩,HD4,⟨?_⟩,HFR9,HB9,HS9⟩
    rw [List.length_append,List.length_singleton]
    exact HFB9.out
end Go.Proofs.Ytlcodfjlbhjkbaa.PDelta
end
section
namespace Go.Proofs.Ytlcodfjlbhjkbaa.PDelta
open Go.RowKit Go.Proofs.YtlcodfjlbhjkbaaW.PrintWords Go.Proofs.YtlcodfjlbhjkbaaW.PrintLast Go.Proofs.YtlcodfjlbhjkbaaW.PrintMore
open Go.RowKit Go.Proofs.YtlcodfjlbhjkbaaW.PrintWords Go.Proofs.YtlcodfjlbhjkbaaW.PrintLast Go.Proofs.YtlcodfjlbhjkbaaW.PrintMore
end Go.Proofs.Ytlcodfjlbhjkbaa.PDelta
end
section
namespace Go.Proofs.Ytlcodfjlbhjkbaa.PDelta
open Go.RowKit Go.Maps Go.Proofs.YtlcodfjlbhjkbaaW.PrintWords Go.Proofs.YtlcodfjlbhjkbaaW.PrintLast Go.Proofs.YtlcodfjlbhjkbaaW.PrintMore
def RawIs (l:List S128) (r:List S87):Prop:=∃ k b,playF k l ⟨[],[]⟩ = some b ∧ BOK b ∧ b.its.length ≤ 1073741824 ∧ (∀ x ∈ b.its,(Lit.int .i64 x.f0).wf = true) ∧ (∀ o ∈ l,OpOK o) ∧ r = (orderL b).map (fillF b)
theorem RawIs.one {l:List S128} {r q:List S87} (h:RawIs l r) (h':RawIs l q):r = q:=by
 obtain ⟨k,b,h1,_,_,_,_,rfl⟩:=h
 obtain ⟨m,c,h2,_,_,_,_,rfl⟩:=h'
 have e:=(play_le h1 (Nat.le_max_left k m)).symm.trans (play_le h2 (Nat.le_max_right k m))
 cases e
 rfl
open Classical in
noncomputable def replica_Raw.f (l:List S128):Option (List S87):=if h:∃ r,RawIs l r then some h.choose else none
theorem rawis_f {l:List S128} {r:List S87} (h:RawIs l r):replica_Raw.f l = some r:=by
 have hx:∃ r,RawIs l r:=⟨r,h⟩
 rw [replica_Raw.f,dif_pos hx]
 exact congrArg some (RawIs.one hx.choose_spec h)
theorem replica_Raw.calls (A0:Option Addr) (c0:Nat) (l0:List S128) (r:List S87) (w:World) (hr0:Kd.C k128 w A0 l0.length l0) (hc0:l0.length ≤ c0) (h:replica_Raw.f l0 = some r) :
 Calls Try.prog 74 #[.slice A0 l0.length c0] w fun e w'=>∃ v0_:Value,e = .returned v0_ ∧ Kd.N k87 87 w' w.heap.size (fun k_=>(w.heap.size ≤ k_)) v0_ r ∧ Below w.heap.size w w':=by
 unfold replica_Raw.f at h
 split at h
 ·rename_i hx
  obtain rfl:=Option.some.inj h
  obtain ⟨k,b,h1,h2,h3,h4,h5,h6⟩:=hx.choose_spec
  rw [h6]
  refine (raw_calls k A0 c0 l0 w hr0 hc0 h5 b h1 h2 h3 h4).mono ?_
  rintro e w' ⟨v,rfl,hR,hB⟩
  exact ⟨v,rfl,Kd.R_N hR,hB⟩
 ·cases h
end Go.Proofs.Ytlcodfjlbhjkbaa.PDelta
end
section
namespace Go.Proofs.Ytlcodfjlbhjkbaa.PDelta
open Go.RowKit Go.Proofs.YtlcodfjlbhjkbaaW.PrintWords Go.Proofs.YtlcodfjlbhjkbaaW.PrintLast Go.Proofs.YtlcodfjlbhjkbaaW.PrintMore
attribute [local go_sem] max2_int min2_int max_two min_two max_three min_three max_four min_four
attribute [local go_sem high] Go.Proofs.Ytlcodfjlbhjkbaa.Ord.leq_str Go.Proofs.Ytlcodfjlbhjkbaa.Ord.gtr_str Go.Proofs.Ytlcodfjlbhjkbaa.Ord.geq_str
noncomputable section
def replica_Items.f (k:Nat) (l0:List (S128)):Option ((List (S87)) × Int):=(replica_Check.f k l0).bind fun t123=>(if t123 = 0 then ((replica_Raw.f l0).bind fun t124=>(some (t124,0))) else (some (([]:List (S87)),t123)))
set_option maxHeartbeats 8000000 in
set_option maxRecDepth 100000 in
theorem replica_Items.calls (k:Nat) (A0:Option Addr) (c0:Nat) (l0:List (S128)) (r1:List (S87)) (r2:Int) (w:World) (hr0:Kd.C k128 w A0 l0.length l0) (hc0:l0.length ≤ c0) (h:replica_Items.f k l0 = some (r1,r2)) :
 Calls Try.prog 37 #[.slice A0 l0.length c0] w fun e w'=>∃ v0_:Value,e = .returned (.tuple #[v0_,.int .i64 r2]) ∧ Kd.N k87 87 w' w.heap.size (fun k_=>(w.heap.size ≤ k_)) v0_ r1 ∧ Below w.heap.size w w':=by
 have HR0:=Aside0.mk hr0
 have HC0:=Aside0.mk hc0
 clear hr0 hc0
 have HB:=Aside0.mk (Below.refl w.heap.size w)
 have H:((replica_Check.f k l0).bind fun t123=>(if t123 = 0 then ((replica_Raw.f l0).bind fun t124=>(some (t124,0))) else (some (([]:List (S87)),t123)))) = some (r1,r2):=h
 clear h
 replace H:=Option.bind_eq_some_iff.mp H
 obtain ⟨t123,A20,H⟩:=H
 replace H:(if t123 = 0 then ((replica_Raw.f l0).bind fun t124=>(some (t124,0))) else (some (([]:List (S87)),t123))) = some (r1,r2):=H
 have A2:=Aside0.mk A20
 clear A20
 by_cases c3:t123 = 0
 ·rw [if_pos c3] at H
  have c3b0:(t123 == 0) = true:=beq_iff_eq.mpr c3
  have c3b1:(t123 != 0) = false:=bne_eq_false_iff_eq.mpr c3
  clear c3
  replace H:=Option.bind_eq_some_iff.mp H
  obtain ⟨t124,A40,H⟩:=H
  replace H:(some (t124,0)) = some (r1,r2):=H
  have A4:=Aside0.mk A40
  clear A40
  simp only [Option.some.injEq,Prod.mk.injEq] at H
  obtain ⟨rfl,rfl⟩:=H
  go_enter Try.func37,Try.ntmps37
  go_wp2_with (first | ((with_reducible refine gate_callee (f:=72) rfl ?_);refine goesL_ (some 6) rfl rfl Try.func72 (by kernel_rfl) rfl #[.slice A0 l0.length c0] rfl (by (try simp only [List.map_toArray,List.map_cons,List.map_nil]);rfl) ?_;(with_reducible refine (replica_Check.calls k _ _ l0 t123 _ ?side1 ?side2 A2.out).mono ?_);(case side1=>repeat (exact HR0.out));(case side2=>exact HC0.out);rintro e w5 ⟨rfl,hb⟩;refine ⟨_,rfl,?_⟩;replace HB:=Aside0.mk (below_step (by with_reducible exact HB.out) hb);(try clear hb);(try clear hb2);(try clear hk);(try clear hi)) | ((with_reducible refine gate_callee (f:=74) rfl ?_);refine goesL_ (some 11) rfl rfl Try.func74 (by kernel_rfl) rfl #[.slice A0 l0.length c0] rfl (by (try simp only [List.map_toArray,List.map_cons,List.map_nil]);rfl) ?_;(with_reducible refine (replica_Raw.calls _ _ l0 t124 _ ?side1 ?side2 A4.out).mono ?_);(case side1=>repeat (exact (Kd.C_below HR0.out HB.out)));(case side2=>exact HC0.out);rintro e w6 ⟨v125,rfl,ho0,hb⟩;refine ⟨_,rfl,?_⟩;have n0_:=Aside0.mk (Kd.N_lower (Kd.N_mono (ok':=fun k_=>(w.heap.size ≤ k_)) ho0 (fun k_ hk_=>(Nat.le_trans (below_size (by with_reducible exact HB.out)) hk_))) (below_size (by with_reducible exact HB.out)));have n1_:=Aside0.mk (below_step (by with_reducible exact HB.out) hb);clear HB;have HO126:=n0_;have HB:=n1_;clear n0_ n1_;(try clear hb);(try clear hb2);(try clear hk);(try clear hi);(try clear ho0)))
  go_ret2
  exact ⟨_,by rfl,by exact HO126.out,HB.out⟩
 ·rw [if_neg c3] at H
  have c3b0:(t123 == 0) = false:=beq_eq_false_iff_ne.mpr c3
  have c3b1:(t123 != 0) = true:=bne_iff_ne.mpr c3
  simp only [Option.some.injEq,Prod.mk.injEq] at H
  obtain ⟨rfl,rfl⟩:=H
  go_enter Try.func37,Try.ntmps37
  go_wp2_with (((with_reducible refine gate_callee (f:=72) rfl ?_);refine goesL_ (some 6) rfl rfl Try.func72 (by kernel_rfl) rfl #[.slice A0 l0.length c0] rfl (by (try simp only [List.map_toArray,List.map_cons,List.map_nil]);rfl) ?_;(with_reducible refine (replica_Check.calls k _ _ l0 t123 _ ?side1 ?side2 A2.out).mono ?_);(case side1=>repeat (exact HR0.out));(case side2=>exact HC0.out);rintro e w7 ⟨rfl,hb⟩;refine ⟨_,rfl,?_⟩;replace HB:=Aside0.mk (below_step (by with_reducible exact HB.out) hb);(try clear hb);(try clear hb2);(try clear hk);(try clear hi)))
  go_ret2
  exact ⟨_,by rfl,by exact Kd.N_nil _ _ _ _ _,HB.out⟩
def chancerykeep1_draws.f (k:Nat) :Option (Bool):=(replica_Items.f k (([(⟨1,1,0,5,0,(⟨#[98]⟩:ByteArray),(⟨#[]⟩:ByteArray),(⟨#[]⟩:ByteArray)⟩:S128),(⟨2,1,0,6,5,(⟨#[98]⟩:ByteArray),(⟨#[]⟩:ByteArray),(⟨#[]⟩:ByteArray)⟩:S128)]:List (S128)))).bind fun bt130=>(if bt130.2 = 0 then (if (bt130.1.length:Int) = 2 then (if 0 < (bt130.1.length:Int) then (if ((rd_T87 bt130.1 0).f0) = 5 then (if 1 < (bt130.1.length:Int) then (some (((rd_T87 bt130.1 1).f0) == 6)) else (none)) else (some false)) else (none)) else (some false)) else (some false))
set_option maxHeartbeats 8000000 in
set_option maxRecDepth 100000 in
theorem chancerykeep1_draws.calls (k:Nat)  (r:Bool) (w:World) (h:chancerykeep1_draws.f k  = some r) :
 Calls Try.prog 34 #[] w fun e w'=>e = .returned (.bool r) ∧ Below w.heap.size w w':=by
 have hu128:=Try.underlying128
 have HB:=Aside0.mk (Below.refl w.heap.size w)
 have H:((replica_Items.f k (([(⟨1,1,0,5,0,(⟨#[98]⟩:ByteArray),(⟨#[]⟩:ByteArray),(⟨#[]⟩:ByteArray)⟩:S128),(⟨2,1,0,6,5,(⟨#[98]⟩:ByteArray),(⟨#[]⟩:ByteArray),(⟨#[]⟩:ByteArray)⟩:S128)]:List (S128)))).bind fun bt130=>(if bt130.2 = 0 then (if (bt130.1.length:Int) = 2 then (if 0 < (bt130.1.length:Int) then (if ((rd_T87 bt130.1 0).f0) = 5 then (if 1 < (bt130.1.length:Int) then (some (((rd_T87 bt130.1 1).f0) == 6)) else (none)) else (some false)) else (none)) else (some false)) else (some false))) = some r:=h
 clear h
 obtain ⟨y127,hy127⟩:∃ y_:List (S128),y_ = (([(⟨1,1,0,5,0,(⟨#[98]⟩:ByteArray),(⟨#[]⟩:ByteArray),(⟨#[]⟩:ByteArray)⟩:S128),(⟨2,1,0,6,5,(⟨#[98]⟩:ByteArray),(⟨#[]⟩:ByteArray),(⟨#[]⟩:ByteArray)⟩:S128)]:List (S128))):=⟨_,rfl⟩
 replace H:((replica_Items.f k y127).bind fun bt130=>(if bt130.2 = 0 then (if (bt130.1.length:Int) = 2 then (if 0 < (bt130.1.length:Int) then (if ((rd_T87 bt130.1 0).f0) = 5 then (if 1 < (bt130.1.length:Int) then (some (((rd_T87 bt130.1 1).f0) == 6)) else (none)) else (some false)) else (none)) else (some false)) else (some false))) = some r:=by (rw [hy127];with_reducible exact H)
 have Ny127:=Aside0.mk hy127
 clear hy127
 replace H:=Option.bind_eq_some_iff.mp H
 obtain ⟨⟨t130,t133⟩,A10,H⟩:=H
 replace H:(if t133 = 0 then (if (t130.length:Int) = 2 then (if 0 < (t130.length:Int) then (if ((rd_T87 t130 0).f0) = 5 then (if 1 < (t130.length:Int) then (some (((rd_T87 t130 1).f0) == 6)) else (none)) else (some false)) else (none)) else (some false)) else (some false)) = some r:=H
 have A1:=Aside0.mk A10
 clear A10
 by_cases c2:t133 = 0
 ·rw [if_pos c2] at H
  have c2b0:(t133 == 0) = true:=beq_iff_eq.mpr c2
  have c2b1:(t133 != 0) = false:=bne_eq_false_iff_eq.mpr c2
  clear c2
  by_cases c3:(t130.length:Int) = 2
  ·rw [if_pos c3] at H
   have c3b0:((t130.length:Int) == 2) = true:=beq_iff_eq.mpr c3
   have c3b1:((t130.length:Int) != 2) = false:=bne_eq_false_iff_eq.mpr c3
   clear c3
   by_cases c4:0 < (t130.length:Int)
   ·rw [if_pos c4] at H
    have c4b0:decide (0 < (t130.length:Int)) = true:=decide_eq_true c4
    have c4b1:decide (0 < t130.length) = true:=decide_eq_true (by omega)
    clear c4
    by_cases c5:((rd_T87 t130 0).f0) = 5
    ·rw [if_pos c5] at H
     have c5b0:(((rd_T87 t130 0).f0) == 5) = true:=beq_iff_eq.mpr c5
     have c5b1:(((rd_T87 t130 0).f0) != 5) = false:=bne_eq_false_iff_eq.mpr c5
     clear c5
     by_cases c6:1 < (t130.length:Int)
     ·rw [if_pos c6] at H
      have c6b0:decide (1 < (t130.length:Int)) = true:=decide_eq_true c6
      have c6b1:decide (1 < t130.length) = true:=decide_eq_true (by omega)
      clear c6
      obtain rfl:=Option.some.inj H
      go_enter Try.func34,Try.ntmps34
      go_wp2_with (first | ((with_reducible refine gate_dst (N:=6) rfl ?_);(try (refine gate_guard (by rfl) ?_;dsimp only));refine Kd.R_lit k128 _ 128 ?hg (N:=6) ?hd (xs:=([(⟨1,1,0,5,0,(⟨#[98]⟩:ByteArray),(⟨#[]⟩:ByteArray),(⟨#[]⟩:ByteArray)⟩:S128),(⟨2,1,0,6,5,(⟨#[98]⟩:ByteArray),(⟨#[]⟩:ByteArray),(⟨#[]⟩:ByteArray)⟩:S128)]:List (S128))) (inner:=[.int .i64 1,.int .i64 1,.int .i64 0,.int .i64 5,.int .i64 0,.string (⟨#[98]⟩:ByteArray),.string (⟨#[]⟩:ByteArray),.string (⟨#[]⟩:ByteArray),.int .i64 2,.int .i64 1,.int .i64 0,.int .i64 6,.int .i64 5,.string (⟨#[98]⟩:ByteArray),.string (⟨#[]⟩:ByteArray),.string (⟨#[]⟩:ByteArray)]) (ok:=fun _=>True) (okp:=fun _=>True) ?hr ?hp (fun _ hk=>hk) trivial (Below.refl _ _) (Nat.le_refl _) (by simp) ?_;(case hd=>rfl);(case hg=>rfl);(case hr=>(go_simp;done));(case hp=>exact (Reps.c8 (show Kd.M k128 _ _ _ (⟨1,1,0,5,0,(⟨#[98]⟩:ByteArray),(⟨#[]⟩:ByteArray),(⟨#[]⟩:ByteArray)⟩:S128) [.int .i64 1,.int .i64 1,.int .i64 0,.int .i64 5,.int .i64 0,.string (⟨#[98]⟩:ByteArray),.string (⟨#[]⟩:ByteArray),.string (⟨#[]⟩:ByteArray)] from (k128_mkM _ _ _ (⟨1,1,0,5,0,(⟨#[98]⟩:ByteArray),(⟨#[]⟩:ByteArray),(⟨#[]⟩:ByteArray)⟩:S128) )) (Reps.c8 (show Kd.M k128 _ _ _ (⟨2,1,0,6,5,(⟨#[98]⟩:ByteArray),(⟨#[]⟩:ByteArray),(⟨#[]⟩:ByteArray)⟩:S128) [.int .i64 2,.int .i64 1,.int .i64 0,.int .i64 6,.int .i64 5,.string (⟨#[98]⟩:ByteArray),.string (⟨#[]⟩:ByteArray),.string (⟨#[]⟩:ByteArray)] from (k128_mkM _ _ _ (⟨2,1,0,6,5,(⟨#[98]⟩:ByteArray),(⟨#[]⟩:ByteArray),(⟨#[]⟩:ByteArray)⟩:S128) )) (Reps.none _ _))));intro v128 w7 ho8 hb hg_ hnew_;clear hg_ hnew_;(rw [← Ny127.out] at ho8);have n0_:=Aside0.mk (Kd.R_lower ho8 (below_size (by with_reducible exact HB.out)));have n1_:=Aside0.mk (below_step (by with_reducible exact HB.out) hb);clear HB;have HO129:=n0_;have HB:=n1_;clear n0_ n1_;clear hb ho8;obtain ⟨Ao9,co9,eo9⟩:=Kd.R_slice HO129.out;subst eo9) | ((with_reducible refine gate_callee (f:=37) rfl ?_);refine goesL_ (some 7) rfl rfl Try.func37 (by kernel_rfl) rfl #[.slice Ao9 y127.length co9] rfl (by (try simp only [List.map_toArray,List.map_cons,List.map_nil]);rfl) ?_;(with_reducible refine (replica_Items.calls k _ _ y127 t130 t133 _ ?side1 ?side2 A1.out).mono ?_);(case side1=>repeat (exact (Kd.R_reads' HO129.out).2.2));(case side2=>exact (Kd.R_reads' HO129.out).2.1);rintro e w10 ⟨v131,rfl,ho0,hb⟩;refine ⟨_,rfl,?_⟩;have n0_:=Aside0.mk (Kd.R_below HO129.out hb);have n1_:=Aside0.mk (Kd.N_lower (Kd.N_mono (ok':=fun k_=>some k_ ≠ (.slice Ao9 y127.length co9:Value).ownBlock) ho0 (fun k_ hk_=>(Kd.fresh' (Kd.R_lt HO129.out) k_ hk_))) (below_size (by with_reducible exact HB.out)));have n2_:=Aside0.mk (below_step (by with_reducible exact HB.out) hb);clear HO129;clear HB;have HO129:=n0_;have HO132:=n1_;have HB:=n2_;clear n0_ n1_ n2_;(try clear hb);(try clear hb2);(try clear hk);(try clear hi);(try clear ho0);obtain ⟨Ao11,co11,eo11⟩:=Kd.N_slice HO132.out;subst eo11;have p134:0 ≤ (0:Int):=(by omega);have q134:0 < (t130.length:Int):=of_decide_eq_true (by assumption);obtain ⟨ad134,A134_3,c134_3,e134,hx134_0,hx134_1,hx134_2,hx134_3,hl134_3,hi134_3⟩:=at_T87 (Kd.N_reads' HO132.out).2.2 0 p134 q134;cases e134;obtain ⟨ce134,hce134,hMe134,hcc134⟩:=Kd.N_get HO132.out z87 0 p134 q134;obtain ⟨ua134_3,uc134_3,rfl,ul134_3,ge134_3⟩:=k87_openF hMe134;have hv134_3:=hcc134 3 _ rfl;rw [add_field _ _ 3 (by omega)] at hv134_3;replace hv134_3:=Option.some.inj (hv134_3.symm.trans hx134_3);injection hv134_3 with hva_ hvn_ hvc_;rw [hva_] at ge134_3;rw [hvc_] at ul134_3;have HL134_3:=Aside0.mk (show Kd.V k91 91 _ w.heap.size _ _ ((rd_T87 t130 0).f3) from Kd.V_mk ul134_3 ge134_3);clear hva_ hvn_ hvc_ ge134_3 ul134_3;clear hcc134 hce134;have qi134:(0 < t130.length) = True:=eq_true (by omega);(try rw [show ((0:Int)).toNat = 0 from rfl] at hx134_0);(try rw [show 0 * 4 = 0 from rfl] at hx134_0);(try rw [Addr.add_zero'] at hx134_0);(try rw [show ((0:Int)).toNat = 0 from rfl] at hx134_1);(try rw [show 0 * 4 = 0 from rfl] at hx134_1);(try rw [Addr.add_zero'] at hx134_1);(try rw [show ((0:Int)).toNat = 0 from rfl] at hx134_2);(try rw [show 0 * 4 = 0 from rfl] at hx134_2);(try rw [Addr.add_zero'] at hx134_2);(try rw [show ((0:Int)).toNat = 0 from rfl] at hx134_3);(try rw [show 0 * 4 = 0 from rfl] at hx134_3);(try rw [Addr.add_zero'] at hx134_3);have HR134_3:=Aside0.mk hi134_3;have HC134_3:=Aside0.mk hl134_3;clear hi134_3 hl134_3;replace p134:=eq_true p134;replace q134:=eq_true q134;have p135:0 ≤ (1:Int):=(by omega);have q135:1 < (t130.length:Int):=of_decide_eq_true (by assumption);obtain ⟨ad135,A135_3,c135_3,e135,hx135_0,hx135_1,hx135_2,hx135_3,hl135_3,hi135_3⟩:=at_T87 (Kd.N_reads' HO132.out).2.2 1 p135 q135;obtain rfl:ad134 = ad135:=(by injection e135);obtain ⟨ce135,hce135,hMe135,hcc135⟩:=Kd.N_get HO132.out z87 1 p135 q135;obtain ⟨ua135_3,uc135_3,rfl,ul135_3,ge135_3⟩:=k87_openF hMe135;have hv135_3:=hcc135 3 _ rfl;rw [add_field _ _ 3 (by omega)] at hv135_3;replace hv135_3:=Option.some.inj (hv135_3.symm.trans hx135_3);injection hv135_3 with hva_ hvn_ hvc_;rw [hva_] at ge135_3;rw [hvc_] at ul135_3;have HL135_3:=Aside0.mk (show Kd.V k91 91 _ w.heap.size _ _ ((rd_T87 t130 1).f3) from Kd.V_mk ul135_3 ge135_3);clear hva_ hvn_ hvc_ ge135_3 ul135_3;clear hcc135 hce135;(try simp only [show (1:Int).toNat = 1 from rfl,Nat.reduceMul,Nat.reduceEqDiff,Go.Addr.add,↓reduceIte] at hx135_0);(try simp only [show (1:Int).toNat = 1 from rfl,Nat.reduceMul,Nat.reduceEqDiff,Go.Addr.add,↓reduceIte] at hx135_1);(try simp only [show (1:Int).toNat = 1 from rfl,Nat.reduceMul,Nat.reduceEqDiff,Go.Addr.add,↓reduceIte] at hx135_2);(try simp only [show (1:Int).toNat = 1 from rfl,Nat.reduceMul,Nat.reduceEqDiff,Go.Addr.add,↓reduceIte] at hx135_3);have qi135:(1 < t130.length) = True:=eq_true (by omega);(try rw [show ((1:Int)).toNat = 1 from rfl] at hx135_0);(try rw [show 1 * 4 = 4 from rfl] at hx135_0);(try rw [show ((1:Int)).toNat = 1 from rfl] at hx135_1);(try rw [show 1 * 4 = 4 from rfl] at hx135_1);(try rw [show ((1:Int)).toNat = 1 from rfl] at hx135_2);(try rw [show 1 * 4 = 4 from rfl] at hx135_2);(try rw [show ((1:Int)).toNat = 1 from rfl] at hx135_3);(try rw [show 1 * 4 = 4 from rfl] at hx135_3);have HR135_3:=Aside0.mk hi135_3;have HC135_3:=Aside0.mk hl135_3;clear hi135_3 hl135_3;replace p135:=eq_true p135;replace q135:=eq_true q135))
      go_ret
      exact ⟨by rfl,HB.out⟩
     ·rw [if_neg c6] at H
      exact absurd H (by simp)
    ·rw [if_neg c5] at H
     have c5b0:(((rd_T87 t130 0).f0) == 5) = false:=beq_eq_false_iff_ne.mpr c5
     have c5b1:(((rd_T87 t130 0).f0) != 5) = true:=bne_iff_ne.mpr c5
     obtain rfl:=Option.some.inj H
     go_enter Try.func34,Try.ntmps34
     go_wp2_with (first | ((with_reducible refine gate_dst (N:=6) rfl ?_);(try (refine gate_guard (by rfl) ?_;dsimp only));refine Kd.R_lit k128 _ 128 ?hg (N:=6) ?hd (xs:=([(⟨1,1,0,5,0,(⟨#[98]⟩:ByteArray),(⟨#[]⟩:ByteArray),(⟨#[]⟩:ByteArray)⟩:S128),(⟨2,1,0,6,5,(⟨#[98]⟩:ByteArray),(⟨#[]⟩:ByteArray),(⟨#[]⟩:ByteArray)⟩:S128)]:List (S128))) (inner:=[.int .i64 1,.int .i64 1,.int .i64 0,.int .i64 5,.int .i64 0,.string (⟨#[98]⟩:ByteArray),.string (⟨#[]⟩:ByteArray),.string (⟨#[]⟩:ByteArray),.int .i64 2,.int .i64 1,.int .i64 0,.int .i64 6,.int .i64 5,.string (⟨#[98]⟩:ByteArray),.string (⟨#[]⟩:ByteArray),.string (⟨#[]⟩:ByteArray)]) (ok:=fun _=>True) (okp:=fun _=>True) ?hr ?hp (fun _ hk=>hk) trivial (Below.refl _ _) (Nat.le_refl _) (by simp) ?_;(case hd=>rfl);(case hg=>rfl);(case hr=>(go_simp;done));(case hp=>exact (Reps.c8 (show Kd.M k128 _ _ _ (⟨1,1,0,5,0,(⟨#[98]⟩:ByteArray),(⟨#[]⟩:ByteArray),(⟨#[]⟩:ByteArray)⟩:S128) [.int .i64 1,.int .i64 1,.int .i64 0,.int .i64 5,.int .i64 0,.string (⟨#[98]⟩:ByteArray),.string (⟨#[]⟩:ByteArray),.string (⟨#[]⟩:ByteArray)] from (k128_mkM _ _ _ (⟨1,1,0,5,0,(⟨#[98]⟩:ByteArray),(⟨#[]⟩:ByteArray),(⟨#[]⟩:ByteArray)⟩:S128) )) (Reps.c8 (show Kd.M k128 _ _ _ (⟨2,1,0,6,5,(⟨#[98]⟩:ByteArray),(⟨#[]⟩:ByteArray),(⟨#[]⟩:ByteArray)⟩:S128) [.int .i64 2,.int .i64 1,.int .i64 0,.int .i64 6,.int .i64 5,.string (⟨#[98]⟩:ByteArray),.string (⟨#[]⟩:ByteArray),.string (⟨#[]⟩:ByteArray)] from (k128_mkM _ _ _ (⟨2,1,0,6,5,(⟨#[98]⟩:ByteArray),(⟨#[]⟩:ByteArray),(⟨#[]⟩:ByteArray)⟩:S128) )) (Reps.none _ _))));intro v128 w12 ho13 hb hg_ hnew_;clear hg_ hnew_;(rw [← Ny127.out] at ho13);have n0_:=Aside0.mk (Kd.R_lower ho13 (below_size (by with_reducible exact HB.out)));have n1_:=Aside0.mk (below_step (by with_reducible exact HB.out) hb);clear HB;have HO129:=n0_;have HB:=n1_;clear n0_ n1_;clear hb ho13;obtain ⟨Ao14,co14,eo14⟩:=Kd.R_slice HO129.out;subst eo14) | ((with_reducible refine gate_callee (f:=37) rfl ?_);refine goesL_ (some 7) rfl rfl Try.func37 (by kernel_rfl) rfl #[.slice Ao14 y127.length co14] rfl (by (try simp only [List.map_toArray,List.map_cons,List.map_nil]);rfl) ?_;(with_reducible refine (replica_Items.calls k _ _ y127 t130 t133 _ ?side1 ?side2 A1.out).mono ?_);(case side1=>repeat (exact (Kd.R_reads' HO129.out).2.2));(case side2=>exact (Kd.R_reads' HO129.out).2.1);rintro e w15 ⟨v131,rfl,ho0,hb⟩;refine ⟨_,rfl,?_⟩;have n0_:=Aside0.mk (Kd.R_below HO129.out hb);have n1_:=Aside0.mk (Kd.N_lower (Kd.N_mono (ok':=fun k_=>some k_ ≠ (.slice Ao14 y127.length co14:Value).ownBlock) ho0 (fun k_ hk_=>(Kd.fresh' (Kd.R_lt HO129.out) k_ hk_))) (below_size (by with_reducible exact HB.out)));have n2_:=Aside0.mk (below_step (by with_reducible exact HB.out) hb);clear HO129;clear HB;have HO129:=n0_;have HO132:=n1_;have HB:=n2_;clear n0_ n1_ n2_;(try clear hb);(try clear hb2);(try clear hk);(try clear hi);(try clear ho0);obtain ⟨Ao16,co16,eo16⟩:=Kd.N_slice HO132.out;subst eo16;have p134:0 ≤ (0:Int):=(by omega);have q134:0 < (t130.length:Int):=of_decide_eq_true (by assumption);obtain ⟨ad134,A134_3,c134_3,e134,hx134_0,hx134_1,hx134_2,hx134_3,hl134_3,hi134_3⟩:=at_T87 (Kd.N_reads' HO132.out).2.2 0 p134 q134;cases e134;obtain ⟨ce134,hce134,hMe134,hcc134⟩:=Kd.N_get HO132.out z87 0 p134 q134;obtain ⟨ua134_3,uc134_3,rfl,ul134_3,ge134_3⟩:=k87_openF hMe134;have hv134_3:=hcc134 3 _ rfl;rw [add_field _ _ 3 (by omega)] at hv134_3;replace hv134_3:=Option.some.inj (hv134_3.symm.trans hx134_3);injection hv134_3 with hva_ hvn_ hvc_;rw [hva_] at ge134_3;rw [hvc_] at ul134_3;have HL134_3:=Aside0.mk (show Kd.V k91 91 _ w.heap.size _ _ ((rd_T87 t130 0).f3) from Kd.V_mk ul134_3 ge134_3);clear hva_ hvn_ hvc_ ge134_3 ul134_3;clear hcc134 hce134;have qi134:(0 < t130.length) = True:=eq_true (by omega);(try rw [show ((0:Int)).toNat = 0 from rfl] at hx134_0);(try rw [show 0 * 4 = 0 from rfl] at hx134_0);(try rw [Addr.add_zero'] at hx134_0);(try rw [show ((0:Int)).toNat = 0 from rfl] at hx134_1);(try rw [show 0 * 4 = 0 from rfl] at hx134_1);(try rw [Addr.add_zero'] at hx134_1);(try rw [show ((0:Int)).toNat = 0 from rfl] at hx134_2);(try rw [show 0 * 4 = 0 from rfl] at hx134_2);(try rw [Addr.add_zero'] at hx134_2);(try rw [show ((0:Int)).toNat = 0 from rfl] at hx134_3);(try rw [show 0 * 4 = 0 from rfl] at hx134_3);(try rw [Addr.add_zero'] at hx134_3);have HR134_3:=Aside0.mk hi134_3;have HC134_3:=Aside0.mk hl134_3;clear hi134_3 hl134_3;replace p134:=eq_true p134;replace q134:=eq_true q134))
     go_ret
     exact ⟨by rfl,HB.out⟩
   ·rw [if_neg c4] at H
    exact absurd H (by simp)
  ·rw [if_neg c3] at H
   have c3b0:((t130.length:Int) == 2) = false:=beq_eq_false_iff_ne.mpr c3
   have c3b1:((t130.length:Int) != 2) = true:=bne_iff_ne.mpr c3
   obtain rfl:=Option.some.inj H
   go_enter Try.func34,Try.ntmps34
   go_wp2_with (first | ((with_reducible refine gate_dst (N:=6) rfl ?_);(try (refine gate_guard (by rfl) ?_;dsimp only));refine Kd.R_lit k128 _ 128 ?hg (N:=6) ?hd (xs:=([(⟨1,1,0,5,0,(⟨#[98]⟩:ByteArray),(⟨#[]⟩:ByteArray),(⟨#[]⟩:ByteArray)⟩:S128),(⟨2,1,0,6,5,(⟨#[98]⟩:ByteArray),(⟨#[]⟩:ByteArray),(⟨#[]⟩:ByteArray)⟩:S128)]:List (S128))) (inner:=[.int .i64 1,.int .i64 1,.int .i64 0,.int .i64 5,.int .i64 0,.string (⟨#[98]⟩:ByteArray),.string (⟨#[]⟩:ByteArray),.string (⟨#[]⟩:ByteArray),.int .i64 2,.int .i64 1,.int .i64 0,.int .i64 6,.int .i64 5,.string (⟨#[98]⟩:ByteArray),.string (⟨#[]⟩:ByteArray),.string (⟨#[]⟩:ByteArray)]) (ok:=fun _=>True) (okp:=fun _=>True) ?hr ?hp (fun _ hk=>hk) trivial (Below.refl _ _) (Nat.le_refl _) (by simp) ?_;(case hd=>rfl);(case hg=>rfl);(case hr=>(go_simp;done));(case hp=>exact (Reps.c8 (show Kd.M k128 _ _ _ (⟨1,1,0,5,0,(⟨#[98]⟩:ByteArray),(⟨#[]⟩:ByteArray),(⟨#[]⟩:ByteArray)⟩:S128) [.int .i64 1,.int .i64 1,.int .i64 0,.int .i64 5,.int .i64 0,.string (⟨#[98]⟩:ByteArray),.string (⟨#[]⟩:ByteArray),.string (⟨#[]⟩:ByteArray)] from (k128_mkM _ _ _ (⟨1,1,0,5,0,(⟨#[98]⟩:ByteArray),(⟨#[]⟩:ByteArray),(⟨#[]⟩:ByteArray)⟩:S128) )) (Reps.c8 (show Kd.M k128 _ _ _ (⟨2,1,0,6,5,(⟨#[98]⟩:ByteArray),(⟨#[]⟩:ByteArray),(⟨#[]⟩:ByteArray)⟩:S128) [.int .i64 2,.int .i64 1,.int .i64 0,.int .i64 6,.int .i64 5,.string (⟨#[98]⟩:ByteArray),.string (⟨#[]⟩:ByteArray),.string (⟨#[]⟩:ByteArray)] from (k128_mkM _ _ _ (⟨2,1,0,6,5,(⟨#[98]⟩:ByteArray),(⟨#[]⟩:ByteArray),(⟨#[]⟩:ByteArray)⟩:S128) )) (Reps.none _ _))));intro v128 w17 ho18 hb hg_ hnew_;clear hg_ hnew_;(rw [← Ny127.out] at ho18);have n0_:=Aside0.mk (Kd.R_lower ho18 (below_size (by with_reducible exact HB.out)));have n1_:=Aside0.mk (below_step (by with_reducible exact HB.out) hb);clear HB;have HO129:=n0_;have HB:=n1_;clear n0_ n1_;clear hb ho18;obtain ⟨Ao19,co19,eo19⟩:=Kd.R_slice HO129.out;subst eo19) | ((with_reducible refine gate_callee (f:=37) rfl ?_);refine goesL_ (some 7) rfl rfl Try.func37 (by kernel_rfl) rfl #[.slice Ao19 y127.length co19] rfl (by (try simp only [List.map_toArray,List.map_cons,List.map_nil]);rfl) ?_;(with_reducible refine (replica_Items.calls k _ _ y127 t130 t133 _ ?side1 ?side2 A1.out).mono ?_);(case side1=>repeat (exact (Kd.R_reads' HO129.out).2.2));(case side2=>exact (Kd.R_reads' HO129.out).2.1);rintro e w20 ⟨v131,rfl,ho0,hb⟩;refine ⟨_,rfl,?_⟩;have n0_:=Aside0.mk (Kd.R_below HO129.out hb);have n1_:=Aside0.mk (Kd.N_lower (Kd.N_mono (ok':=fun k_=>some k_ ≠ (.slice Ao19 y127.length co19:Value).ownBlock) ho0 (fun k_ hk_=>(Kd.fresh' (Kd.R_lt HO129.out) k_ hk_))) (below_size (by with_reducible exact HB.out)));have n2_:=Aside0.mk (below_step (by with_reducible exact HB.out) hb);clear HO129;clear HB;have HO129:=n0_;have HO132:=n1_;have HB:=n2_;clear n0_ n1_ n2_;(try clear hb);(try clear hb2);(try clear hk);(try clear hi);(try clear ho0);obtain ⟨Ao21,co21,eo21⟩:=Kd.N_slice HO132.out;subst eo21))
   go_ret
   exact ⟨by rfl,HB.out⟩
 ·rw [if_neg c2] at H
  have c2b0:(t133 == 0) = false:=beq_eq_false_iff_ne.mpr c2
  have c2b1:(t133 != 0) = true:=bne_iff_ne.mpr c2
  obtain rfl:=Option.some.inj H
  go_enter Try.func34,Try.ntmps34
  go_wp2_with (first | ((with_reducible refine gate_dst (N:=6) rfl ?_);(try (refine gate_guard (by rfl) ?_;dsimp only));refine Kd.R_lit k128 _ 128 ?hg (N:=6) ?hd (xs:=([(⟨1,1,0,5,0,(⟨#[98]⟩:ByteArray),(⟨#[]⟩:ByteArray),(⟨#[]⟩:ByteArray)⟩:S128),(⟨2,1,0,6,5,(⟨#[98]⟩:ByteArray),(⟨#[]⟩:ByteArray),(⟨#[]⟩:ByteArray)⟩:S128)]:List (S128))) (inner:=[.int .i64 1,.int .i64 1,.int .i64 0,.int .i64 5,.int .i64 0,.string (⟨#[98]⟩:ByteArray),.string (⟨#[]⟩:ByteArray),.string (⟨#[]⟩:ByteArray),.int .i64 2,.int .i64 1,.int .i64 0,.int .i64 6,.int .i64 5,.string (⟨#[98]⟩:ByteArray),.string (⟨#[]⟩:ByteArray),.string (⟨#[]⟩:ByteArray)]) (ok:=fun _=>True) (okp:=fun _=>True) ?hr ?hp (fun _ hk=>hk) trivial (Below.refl _ _) (Nat.le_refl _) (by simp) ?_;(case hd=>rfl);(case hg=>rfl);(case hr=>(go_simp;done));(case hp=>exact (Reps.c8 (show Kd.M k128 _ _ _ (⟨1,1,0,5,0,(⟨#[98]⟩:ByteArray),(⟨#[]⟩:ByteArray),(⟨#[]⟩:ByteArray)⟩:S128) [.int .i64 1,.int .i64 1,.int .i64 0,.int .i64 5,.int .i64 0,.string (⟨#[98]⟩:ByteArray),.string (⟨#[]⟩:ByteArray),.string (⟨#[]⟩:ByteArray)] from (k128_mkM _ _ _ (⟨1,1,0,5,0,(⟨#[98]⟩:ByteArray),(⟨#[]⟩:ByteArray),(⟨#[]⟩:ByteArray)⟩:S128) )) (Reps.c8 (show Kd.M k128 _ _ _ (⟨2,1,0,6,5,(⟨#[98]⟩:ByteArray),(⟨#[]⟩:ByteArray),(⟨#[]⟩:ByteArray)⟩:S128) [.int .i64 2,.int .i64 1,.int .i64 0,.int .i64 6,.int .i64 5,.string (⟨#[98]⟩:ByteArray),.string (⟨#[]⟩:ByteArray),.string (⟨#[]⟩:ByteArray)] from (k128_mkM _ _ _ (⟨2,1,0,6,5,(⟨#[98]⟩:ByteArray),(⟨#[]⟩:ByteArray),(⟨#[]⟩:ByteArray)⟩:S128) )) (Reps.none _ _))));intro v128 w22 ho23 hb hg_ hnew_;clear hg_ hnew_;(rw [← Ny127.out] at ho23);have n0_:=Aside0.mk (Kd.R_lower ho23 (below_size (by with_reducible exact HB.out)));have n1_:=Aside0.mk (below_step (by with_reducible exact HB.out) hb);clear HB;have HO129:=n0_;have HB:=n1_;clear n0_ n1_;clear hb ho23;obtain ⟨Ao24,co24,eo24⟩:=Kd.R_slice HO129.out;subst eo24) | ((with_reducible refine gate_callee (f:=37) rfl ?_);refine goesL_ (some 7) rfl rfl Try.func37 (by kernel_rfl) rfl #[.slice Ao24 y127.length co24] rfl (by (try simp only [List.map_toArray,List.map_cons,List.map_nil]);rfl) ?_;(with_reducible refine (replica_Items.calls k _ _ y127 t130 t133 _ ?side1 ?side2 A1.out).mono ?_);(case side1=>repeat (exact (Kd.R_reads' HO129.out).2.2));(case side2=>exact (Kd.R_reads' HO129.out).2.1);rintro e w25 ⟨v131,rfl,ho0,hb⟩;refine ⟨_,rfl,?_⟩;have n0_:=Aside0.mk (Kd.R_below HO129.out hb);have n1_:=Aside0.mk (Kd.N_lower (Kd.N_mono (ok':=fun k_=>some k_ ≠ (.slice Ao24 y127.length co24:Value).ownBlock) ho0 (fun k_ hk_=>(Kd.fresh' (Kd.R_lt HO129.out) k_ hk_))) (below_size (by with_reducible exact HB.out)));have n2_:=Aside0.mk (below_step (by with_reducible exact HB.out) hb);clear HO129;clear HB;have HO129:=n0_;have HO132:=n1_;have HB:=n2_;clear n0_ n1_ n2_;(try clear hb);(try clear hb2);(try clear hk);(try clear hi);(try clear ho0)))
  go_ret
  exact ⟨by rfl,HB.out⟩
end
def eS:ByteArray:=⟨#[]⟩
theorem eS_nil:(⟨#[]⟩:ByteArray).toList = ([]:List UInt8):=by rw [ByteArray.toList_eq]
def plA (l:List ByteArray) (m:Nat):ByteArray:=if 0 < m then l.getD (m - 1) eS else eS
def plB (l:List ByteArray) (m:Nat):ByteArray:=if m < l.length then l.getD m eS else eS
structure StepAt (k:Nat) (l:List ByteArray) (m:Nat) (s:ByteArray):Prop where
 le:m ≤ l.length
 betw:replica_Between.f k (plA l m) (plB l m) = some (s,0)
 place:replica_Place.f k s = some true
 ea:0 < m → (plA l m).toList ≠ [] ∧ Op.bytesLess (plA l m).toList s.toList = true
 eb:m < l.length → (plB l m).toList ≠ [] ∧ Op.bytesLess s.toList (plB l m).toList = true
 size:s.size ≤ max (plA l m).size (plB l m).size + 1
 bd:(plA l m).size ≤ 1000 ∧ (plB l m).size ≤ 1000
def InsAt (k:Nat) (raw:List Int):Nat → Nat → List ByteArray → Prop
 | 0,_,_=>True
 | n + 1,u,l=>∃ (m:Nat) (s:ByteArray),rollF raw u ((l.length:Int) + 1) = some (m:Int) ∧ StepAt k l m s ∧ InsAt k raw n (rollU raw u) (l.take m ++ s :: l.drop m)
theorem max2_nat (x y:Nat):Builtin.max2 (.int .i64 (x:Int)) (.int .i64 (y:Int)) = pure (.int .i64 ((max x y:Nat):Int)):=by
 rw [max2_int]
 congr 2
 split <;> omega
theorem rdStr {l:List ByteArray} {i:Nat}:rdOf ByteArray.empty l (i:Int) = l.getD i eS:=by unfold rdOf;rw [Int.toNat_natCast];rfl
theorem cut_hm (A:Option Addr) (n c m:Nat) (hm:m ≤ n) (hc:n ≤ c) (W:World):Sem.run Try.prog (Instr.slice 76 (.slice A n c) none (some (.int .i64 (m:Int))) (some (.int .i64 (m:Int)))) W = .ok (.slice A m m) W:=by
 obtain ⟨i,hi,hz⟩:=Option.map_eq_some_iff.1 info9
 simp only [Prod.mk.injEq] at hz
 have hel:Try.prog.elem 76 = 9:=by simp [Program.elem,Try.underlying76]
 have hu:Try.prog.underlying 76 = some (.slice (Try.prog.elem 76)):=by rw [hel];exact Try.underlying76
 have ha:(A.map fun x=>x.add 0) = A:=by cases A <;> simp [Addr.add]
 rw [run_slice_hm W 76 A n c hu .i64 .i64 (m:Int) (m:Int) (by omega) (by omega) (by omega),hel]
 simp [sizeOf,typeInfo,hi,hz.2.1,sliced,Result.andThen,ha]
theorem cut_l (A:Option Addr) (n c m:Nat) (hm:m ≤ n) (W:World):Sem.run Try.prog (Instr.slice 76 (.slice A n c) (some (.int .i64 (m:Int))) none none) W = .ok (.slice (if c = m then A else A.map (·.add (m * 1))) (n - m) (c - m)) W:=by
 obtain ⟨i,hi,hz⟩:=Option.map_eq_some_iff.1 info9
 simp only [Prod.mk.injEq] at hz
 have:=cut_from 76 9 .i64 Try.underlying76 hi 1 hz.2.1 A n c (m:Int) (by omega) (by omega) W
 simpa using this
set_option maxRecDepth 100000 in
set_option maxHeartbeats 8000000 in
theorem betw_calls (k:Nat) (A0:Option Addr) (c0:Nat) (raw:List Int) (w:World) (hr0:Kd.C (Kd.int .i64) w A0 raw.length raw) (hc0:raw.length ≤ c0) (hd:chancerykeep1_draws.f k = some true) (h:InsAt k raw (min raw.length 60) 0 []) :
 Calls Try.prog 9 #[.slice A0 raw.length c0] w fun e w'=>e = .returned (.bool true) ∧ Below w.heap.size w w':=by
 obtain ⟨M,hM⟩:∃ m,m = min raw.length 60:=⟨_,rfl⟩
 have HM:Aside0 (M ≤ 60):=⟨by omega⟩
 have HMI:Aside0 (Builtin.min2 (.int .i64 (raw.length:Int)) (.int .i64 60) = pure (.int .i64 (M:Int))):=⟨by
  rw [min2_int]
  congr 2
  split <;> omega⟩
 have H:Aside0 (InsAt k raw M 0 []):=⟨by rw [hM];exact h⟩
 have HR0:=Aside0.mk hr0
 have HC0:=Aside0.mk hc0
 have HD:=Aside0.mk hd
 clear hM h hr0 hc0 hd
 go_enter Try.func9,Try.ntmps9
 go_upto_region 5 with (go_at_call 34;(with_reducible refine (chancerykeep1_draws.calls k true _ HD.out).mono ?_);rintro e1 w1 ⟨rfl,hb⟩;have HB1:=Aside0.mk hb;clear hb)
 obtain ⟨w2,hw2⟩:∃ W,W = w1.alloc (Obj.cells #[.slice A0 raw.length c0,.int .i64 0] 79):=⟨_,rfl⟩
 obtain ⟨gd,hgd⟩:∃ g,g = w1.heap.size:=⟨_,rfl⟩
 have HP1:Aside0 (BeS w gd raw 0 (.slice none 0 0) [] w2):=⟨by
  rw [hw2,hgd]
  exact ⟨⟨A0,c0,blk_new w1 _,HR0.out,HC0.out⟩,HB1.out.size,Kd.R_nil _ _ _ _ _,below_alloc HB1.out _⟩⟩
 rw [← hw2,← hgd]
 clear hw2 hgd HR0 HC0 HB1 HD
 have hmi:=HMI.out
 go_wp2_with (fail)
 clear hmi
 go_loopg [3,18] M (fun n v3 v18 wr=>∃ (i u:Nat) (va:Value) (l:List ByteArray),va = v3 ∧ v18 = .int .i64 (i:Int) ∧ Aside0 (n + i = M ∧ u ≤ i ∧ l.length = i) ∧ Aside0 (InsAt k raw n u l) ∧ Aside0 (BeS w gd raw u va l wr))
 case atStart=>exact ⟨0,0,_,[],rfl,rfl,⟨⟨rfl,by omega,rfl⟩⟩,H,HP1⟩
 case round =>
  obtain ⟨i,u,v3,l,rfl,rfl,HI,HL,HP⟩:=hrel
  clear H HP1
  by_cases d1:i < M
  rotate_left
  ·have g1:decide ((i:Int) < (M:Int)) = false:=decide_eq_false (by omega)
   have g1':decide (i < M) = false:=decide_eq_false d1
   clear d1
   go_wp2
   go_ret
   exact ⟨rfl,HP.out.bel⟩
  have g1:decide ((i:Int) < (M:Int)) = true:=decide_eq_true (by omega)
  have g1':decide (i < M) = true:=decide_eq_true d1
  obtain ⟨gl,rfl⟩:∃ gl,gk = gl + 1:=⟨gk - 1,by have:=HI.out;omega⟩
  have hl:=HL.out
  rw [InsAt] at hl
  obtain ⟨m,s,hro,hst,hnx⟩:=hl
  obtain ⟨A,c,ev⟩:=Kd.R_slice HP.out.row
  obtain ⟨n,hn⟩:∃ n,n = l.length:=⟨_,rfl⟩
  rw [← hn] at ev
  subst ev
  have hrd:=Kd.R_reads' HP.out.row
  have hnn:n ≤ 60:=by have:=HI.out;have:=HM.out;omega
  have HN:Aside0 (n = l.length ∧ n ≤ c ∧ n ≤ 60 ∧ n = i):=⟨hn,hrd.2.1,hnn,by have:=HI.out;omega⟩
  rw [← hn] at hro
  have HRO:=Aside0.mk hro
  have HST:=Aside0.mk hst
  have HNX:=Aside0.mk hnx
  have HRD:=Aside0.mk hrd.2.2
  have HUa:Aside0 (u < 4611686018427387904):=⟨by have:=HI.out;have:=HM.out;omega⟩
  have hmn:m ≤ n:=by have:=hst.le;omega
  have HMN:=Aside0.mk hmn
  have wk:wrap64 ((i:Int) + 1) = (i:Int) + 1:=by have:=HM.out;unfold wrap64;omega
  have HWK:=Aside0.mk wk
  have wn:IntKind.i64.wrap ((n:Int) + 1) = (n:Int) + 1:=wrap_k (by omega) (by omega)
  have HU1:Aside0 (rollU raw u ≤ i + 1):=⟨by have:=HI.out;unfold rollU;split <;> omega⟩
  obtain ⟨sa,hsa⟩:∃ x,x = plA l m:=⟨_,rfl⟩
  obtain ⟨sb,hsb⟩:∃ x,x = plB l m:=⟨_,rfl⟩
  have HSA:=Aside0.mk hsa
  have HSB:=Aside0.mk hsb
  clear HL hro hst hnx hrd hn wk d1 hsa hsb hnn hmn
  go_upto_if 26 with (go_at_call 40;(with_reducible refine (HP.out.roll_calls HUa.out HRO.out).mono ?_);rintro e2 w3 ⟨rfl,hP⟩;have HP3:=Aside0.mk hP;clear hP)
  clear wn
  have HRD3:Aside0 (Kd.C Kd.string w3 A l.length l):=⟨by have h:=(Kd.R_reads' HP3.out.row).2.2;exact h⟩
  go_cut [6] (fun v6 wx=>v6 = .string sa ∧ w3 = wx)
  case first =>
   by_cases d2:0 < m
   ·have g2:decide (0 < (m:Int)) = true:=decide_eq_true (by omega)
    have g2':decide (0 < m) = true:=decide_eq_true d2
    obtain ⟨ad,ea,hx⟩:=Kd.at_string HRD3.out (((m - 1:Nat)):Int) (by omega) (by have:=HN.out;have:=HMN.out;omega)
    subst ea
    rw [rdStr] at hx
    have hxe:l.getD (m - 1) eS = sa:=by rw [HSA.out,plA,if_pos d2]
    rw [hxe,Int.toNat_natCast] at hx
    have wm:IntKind.i64.wrap ((m:Int) - 1) = ((m - 1:Nat):Int):=by rw [i64_w];have:=HMN.out;have:=HN.out;unfold wrap64;omega
    have wm':wrap64 ((m:Int) - 1) = ((m - 1:Nat):Int):=by have:=HMN.out;have:=HN.out;unfold wrap64;omega
    have q1:((m - 1:Nat):Int) < (n:Int):=by have:=HMN.out;omega
    have q2:m - 1 < n:=by have:=HMN.out;omega
    clear hxe
    go_wp2
    go_meet
    case rel=>exact ⟨rfl,rfl⟩
   ·have g2:decide (0 < (m:Int)) = false:=decide_eq_false (by omega)
    have g2':decide (0 < m) = false:=decide_eq_false d2
    have HE:Aside0 (sa = ⟨#[]⟩):=⟨by rw [HSA.out,plA,if_neg d2];rfl⟩
    go_wp2
    go_meet
    case rel=>exact ⟨by rw [HE.out],rfl⟩
  case rest =>
  obtain ⟨rfl,hcut⟩:=hcut
  subst hcut
  go_upto_if 35 with (fail)
  go_cut [7] (fun v7 wx=>v7 = .string sb ∧ w3 = wx)
  case first =>
   by_cases d3:m < n
   ·have g3:decide ((m:Int) < (n:Int)) = true:=decide_eq_true (by omega)
    have g3':decide (m < n) = true:=decide_eq_true d3
    obtain ⟨ad,ea,hx⟩:=Kd.at_string HRD3.out (m:Int) (by omega) (by have:=HN.out;omega)
    subst ea
    rw [rdStr] at hx
    have hxe:l.getD m eS = sb:=by rw [HSB.out,plB,if_pos (by have:=HN.out;omega)]
    rw [hxe,Int.toNat_natCast] at hx
    have q1:(m:Int) < (n:Int):=by omega
    clear hxe
    go_wp2
    go_meet
    case rel=>exact ⟨rfl,rfl⟩
   ·have g3:decide ((m:Int) < (n:Int)) = false:=decide_eq_false (by omega)
    have g3':decide (m < n) = false:=decide_eq_false d3
    have HE:Aside0 (sb = ⟨#[]⟩):=⟨by rw [HSB.out,plB,if_neg (by have:=HN.out;omega)];rfl⟩
    go_wp2
    go_meet
    case rel=>exact ⟨by rw [HE.out],rfl⟩
  case rest =>
  obtain ⟨rfl,hcut⟩:=hcut
  subst hcut
  have HBT:Aside0 (replica_Between.f k sa sb = some (s,0)):=⟨by rw [HSA.out,HSB.out];exact HST.out.betw⟩
  go_upto_region 14 with (go_at_call 41;(with_reducible refine (replica_Between.calls k sa sb s 0 _ HBT.out).mono ?_);rintro e3 w4 ⟨rfl,hb⟩;have HP4:=Aside0.mk (HP3.out.below hb);clear hb)
  clear HRD3 HP3
  go_cut [8,81] (fun v8 v81 wx=>v8 = .string s ∧ v81 = .bool false ∧ Aside0 (BeS w gd raw (rollU raw u) (.slice A n c) l wx))
  case first =>
   obtain ⟨mx,hmx⟩:∃ x,x = max sa.size sb.size:=⟨_,rfl⟩
   have HSZ:Aside0 (s.size ≤ mx + 1 ∧ sa.size ≤ 1000 ∧ sb.size ≤ 1000 ∧ mx ≤ 1000):=⟨by
    have h1:=HST.out.size
    have h2:=HST.out.bd
    rw [← HSA.out,← HSB.out] at h1 h2
    rw [← hmx] at h1
    exact ⟨h1,h2.1,h2.2,by omega⟩⟩
   have hm2:Builtin.max2 (.int .i64 (sa.size:Int)) (.int .i64 (sb.size:Int)) = pure (.int .i64 (mx:Int)):=by rw [max2_nat,hmx]
   have wx1:wrap64 ((mx:Int) + 1) = (mx:Int) + 1:=by have:=HSZ.out;unfold wrap64;omega
   have gx:decide ((mx:Int) + 1 < (s.size:Int)) = false:=decide_eq_false (by have:=HSZ.out;omega)
   have HPL:Aside0 (replica_Place.f k s = some true):=⟨HST.out.place⟩
   clear hmx
   by_cases d2:0 < m
   ·have ha:=HST.out.ea d2
    rw [← HSA.out] at ha
    have p1:=ha.1
    have p1a:(sa.toList == ([]:List UInt8)) = false:=beq_eq_false_iff_ne.mpr ha.1
    have p1b:(sa.toList != ([]:List UInt8)) = true:=bne_iff_ne.mpr ha.1
    have p1c:=ha.2
    clear ha
    by_cases d3:m < n
    ·have hb:=HST.out.eb (by have:=HN.out;omega)
     rw [← HSB.out] at hb
     have p2:=hb.1
     have p2a:(sb.toList == ([]:List UInt8)) = false:=beq_eq_false_iff_ne.mpr hb.1
     have p2b:(sb.toList != ([]:List UInt8)) = true:=bne_iff_ne.mpr hb.1
     have p2c:=hb.2
     clear hb
     go_wp2_with (go_at_call 42;(with_reducible refine (replica_Place.calls k s true _ HPL.out).mono ?_);rintro e w5 ⟨rfl,hd⟩;have HP5:=Aside0.mk (HP4.out.below hd.below);clear hd)
     go_meet
     case rel=>exact ⟨rfl,rfl,HP5⟩
    ·have HE:Aside0 (sb = ⟨#[]⟩):=⟨by rw [HSB.out,plB,if_neg (by have:=HN.out;omega)];rfl⟩
     have p2a:(sb.toList == ([]:List UInt8)) = true:=by rw [HE.out,eS_nil];rfl
     have p2b:(sb.toList != ([]:List UInt8)) = false:=by rw [HE.out,eS_nil];rfl
     go_wp2_with (go_at_call 42;(with_reducible refine (replica_Place.calls k s true _ HPL.out).mono ?_);rintro e w5 ⟨rfl,hd⟩;have HP5:=Aside0.mk (HP4.out.below hd.below);clear hd)
     go_meet
     case rel=>exact ⟨rfl,rfl,HP5⟩
   ·have HE1:Aside0 (sa = ⟨#[]⟩):=⟨by rw [HSA.out,plA,if_neg d2];rfl⟩
    have p1a:(sa.toList == ([]:List UInt8)) = true:=by rw [HE1.out,eS_nil];rfl
    have p1b:(sa.toList != ([]:List UInt8)) = false:=by rw [HE1.out,eS_nil];rfl
    by_cases d3:m < n
    ·have hb:=HST.out.eb (by have:=HN.out;omega)
     rw [← HSB.out] at hb
     have p2:=hb.1
     have p2a:(sb.toList == ([]:List UInt8)) = false:=beq_eq_false_iff_ne.mpr hb.1
     have p2b:(sb.toList != ([]:List UInt8)) = true:=bne_iff_ne.mpr hb.1
     have p2c:=hb.2
     clear hb
     go_wp2_with (go_at_call 42;(with_reducible refine (replica_Place.calls k s true _ HPL.out).mono ?_);rintro e w5 ⟨rfl,hd⟩;have HP5:=Aside0.mk (HP4.out.below hd.below);clear hd)
     go_meet
     case rel=>exact ⟨rfl,rfl,HP5⟩
    ·have HE:Aside0 (sb = ⟨#[]⟩):=⟨by rw [HSB.out,plB,if_neg (by have:=HN.out;omega)];rfl⟩
     have p2a:(sb.toList == ([]:List UInt8)) = true:=by rw [HE.out,eS_nil];rfl
     have p2b:(sb.toList != ([]:List UInt8)) = false:=by rw [HE.out,eS_nil];rfl
     go_wp2_with (go_at_call 42;(with_reducible refine (replica_Place.calls k s true _ HPL.out).mono ?_);rintro e w5 ⟨rfl,hd⟩;have HP5:=Aside0.mk (HP4.out.below hd.below);clear hd)
     go_meet
     case rel=>exact ⟨rfl,rfl,HP5⟩
  case rest =>
  obtain ⟨rfl,rfl,HP9⟩:=hcut
  clear HP4
  go_upto_region 16 with (fail)
  have hx1:∀ W,Sem.run Try.prog (Instr.slice 76 (.slice A n c) none (some (.int .i64 (m:Int))) (some (.int .i64 (m:Int)))) W = .ok (.slice A m m) W:=cut_hm A n c m HMN.out HN.out.2.1
  obtain ⟨A2,hA2⟩:∃ x,x = if c = m then A else A.map (·.add (m * 1)):=⟨_,rfl⟩
  obtain ⟨r2,hr2⟩:∃ x,x = n - m:=⟨_,rfl⟩
  obtain ⟨c2,hc2⟩:∃ x,x = c - m:=⟨_,rfl⟩
  have hx2:∀ W,Sem.run Try.prog (Instr.slice 76 (.slice A n c) (some (.int .i64 (m:Int))) none none) W = .ok (.slice A2 r2 c2) W:=fun W=>by rw [hA2,hr2,hc2];exact cut_l A n c m HMN.out W
  have HTK:Aside0 ((l.take m).length = m):=⟨by rw [List.length_take];have:=HN.out;have:=HMN.out;omega⟩
  have HDR:Aside0 ((l.drop m).length = r2):=⟨by rw [List.length_drop,hr2];have:=HN.out;omega⟩
  have HSL:Aside0 (m + r2 = n ∧ m ≤ 60 ∧ r2 ≤ 60):=⟨by have:=HN.out;have:=HMN.out;omega⟩
  have HMM:Aside0 (A = none → (l.take m).length = 0):=⟨fun e=>Nat.eq_zero_of_not_pos (fun hp=>by
   have h:=(Kd.R_reads' HP9.out.row).2.2
   obtain ⟨ad,e',_⟩:=C_str (Kd.C_take h (by have:=HN.out;have:=HMN.out;omega)) hp
   rw [e] at e'
   cases e')⟩
  have HCT:Aside0 (∀ W,Below wc.heap.size wc W → Kd.C Kd.string W A (l.take m).length (l.take m) ∧ Kd.C Kd.string W A2 r2 (l.drop m)):=⟨fun W hb=>by
   have h:=(Kd.R_reads' (HP9.out.below hb).row).2.2
   refine ⟨Kd.C_take h (by have:=HN.out;have:=HMN.out;omega),?_⟩
   have h2:=Kd.C_drop (c:=c) h (m:=m) (by have:=HN.out;have:=HMN.out;omega) (by have:=HN.out;omega)
   rw [HDR.out] at h2
   rw [hA2]
   exact h2⟩
  have HB4:Aside0 (Below wc.heap.size wc wc.drew):=⟨below_drew1 (Below.refl _ _)⟩
  have HLL:Aside0 ((l.take m).length + ([s] ++ l.drop m).length ≤ 1000000):=⟨by rw [List.length_append,HTK.out,HDR.out];have:=HSL.out;simp only [List.length_cons,List.length_nil];omega⟩
  have HLN:Aside0 ((l.take m ++ ([s] ++ l.drop m)).length = i + 1):=⟨by rw [List.length_append,List.length_append,HTK.out,HDR.out];have:=HSL.out;have:=HN.out;simp only [List.length_cons,List.length_nil];omega⟩
  clear hA2 hr2 hc2
  refine start_ (n:=12) (S:=fun w'=>True) (ds:=[]) #[false,false,false,false,false,false,false,false,false,false,false,false] (by kernel_rfl) rfl rfl trivial (fun hHeld=>?_)
  refine pure_ (i:=0) (N:=some 82) (v:=?_) (a':=?_) (bm 1 12) rfl rfl (by kernel_rfl) (fun _ _ _ h=>h) (Or.inl ⟨by rfl,?_⟩) ?_ ?_
  rotate_left
  ·intro w'
   go_simp
   with_reducible rfl
  rotate_left
  ·simp only [Act.put,sA,sB,sC,i64_w,i32_w]
   rfl
  refine pure_ (i:=1) (N:=some 83) (v:=?_) (a':=?_) (bm 3 12) rfl rfl (by kernel_rfl) (fun _ _ _ h=>h) (Or.inl ⟨by rfl,?_⟩) ?_ ?_
  rotate_left
  ·intro w'
   go_simp
   with_reducible rfl
  rotate_left
  ·simp only [Act.put,sA,sB,sC,i64_w,i32_w]
   rfl
  refine pure_ (i:=2) (N:=some 84) (v:=?_) (a':=?_) (bm 7 12) rfl rfl (by kernel_rfl) (fun _ _ _ h=>h) (Or.inl ⟨by rfl,?_⟩) ?_ ?_
  rotate_left
  ·intro w'
   go_simp
   with_reducible rfl
  rotate_left
  ·simp only [Act.put,sA,sB,sC,i64_w,i32_w]
   rfl
  refine pure_ (i:=3) (N:=some 85) (v:=?_) (a':=?_) (bm 15 12) rfl rfl (by kernel_rfl) (fun _ _ _ h=>h) (Or.inl ⟨by rfl,?_⟩) ?_ ?_
  rotate_left
  ·intro w'
   go_simp
   with_reducible rfl
  rotate_left
  ·simp only [Act.put,sA,sB,sC,i64_w,i32_w]
   rfl
  refine pure_ (i:=4) (N:=some 86) (v:=?_) (a':=?_) (bm 31 12) rfl rfl (by kernel_rfl) (fun _ _ _ h=>h) (Or.inl ⟨by rfl,?_⟩) ?_ ?_
  rotate_left
  ·intro w'
   go_simp
   with_reducible rfl
  rotate_left
  ·simp only [Act.put,sA,sB,sC,i64_w,i32_w]
   rfl
  refine pure_ (i:=6) (N:=some 88) (v:=?_) (a':=?_) (bm 95 12) rfl rfl (by kernel_rfl) (fun _ _ _ h=>h) (Or.inl ⟨by rfl,?_⟩) ?_ ?_
  rotate_left
  ·intro w'
   go_simp
   with_reducible rfl
  rotate_left
  ·simp only [Act.put,sA,sB,sC,i64_w,i32_w]
   rfl
  refine pure_ (i:=7) (N:=some 89) (v:=?_) (a':=?_) (bm 223 12) rfl rfl (by kernel_rfl) (fun _ _ _ h=>h) (Or.inl ⟨by rfl,?_⟩) ?_ ?_
  rotate_left
  ·intro w'
   go_simp
   with_reducible rfl
  rotate_left
  ·simp only [Act.put,sA,sB,sC,i64_w,i32_w]
   rfl
  refine pure_ (i:=8) (N:=some 90) (v:=?_) (a':=?_) (bm 479 12) rfl rfl (by kernel_rfl) (fun _ _ _ h=>h) (Or.inl ⟨by rfl,?_⟩) ?_ ?_
  rotate_left
  ·intro w'
   go_simp
   with_reducible rfl
  rotate_left
  ·simp only [Act.put,sA,sB,sC,i64_w,i32_w]
   rfl
  refine one_ (i:=5) (N:=some 87) (bm 511 12) rfl rfl (by kernel_rfl) (by decide) (fun K hK=>?_)
  refine Kd.R_lit_step Kd.string (w0:=wc) wc.heap.size 9 (by rfl) (N:=87) rfl (xs:=[s]) (inner:=[.string s]) (ok:=fun _=>True) (okp:=fun _=>True) ?hr ?hp (fun _ hk=>hk) trivial HB4.out HB4.out.size (by simp) ?_
  case hr=>(go_simp;done)
  case hp=>exact Reps.one rfl (Reps.none _ _)
  intro v_ w6 hR hB hg hn
  obtain ⟨adL,cL,e_⟩:=strR_ad hR (by simp)
  subst e_
  have HL:=Aside0.mk hR
  have HB6:=Aside0.mk hB
  clear hR hB hg hn
  refine hK.out _ _ trivial (fun hHeld=>?_)
  clear hK K
  refine norm_ (a':=?_) ?_ ?_
  rotate_left
  ·show Act.put _ (some 87) _ = _
   simp only [Act.put,sA,sB,sC,i64_w,i32_w]
   rfl
  refine one_ (i:=9) (N:=some 91) (bm 1023 12) rfl rfl (by kernel_rfl) (by decide) (fun K hK=>?_)
  refine Kd.R_append_rows_step Kd.string (w0:=wc) wc.heap.size (by rfl) (.tmp 87) (.tmp 90) 76 9 (.string ⟨#[]⟩) 16 rfl Try.underlying76 info9 rfl (by decide) (by decide) (.slice (some adL) 1 cL) [s] (l.drop m) A2 r2 c2 (fun _=>True) (fun _=>False) rfl rfl HL.out (HCT.out _ HB6.out).2 (fun _ _ h=>h) (fun _ h=>h.elim) (fun _ _=>trivial) HB6.out HB6.out.size (by have:=HSL.out;simp only [List.length_cons,List.length_nil];omega) ?_
  intro v_ w7 hR hB hg ha
  obtain ⟨A7,c7,e7⟩:=Kd.R_slice hR
  obtain ⟨q7,hq7⟩:∃ q,q = ([s] ++ l.drop m).length:=⟨_,rfl⟩
  rw [← hq7] at e7
  subst e7
  have HQ7:=Aside0.mk hq7
  have H7:=Aside0.mk (Kd.R_reads' hR).2.2
  have HB7:=Aside0.mk hB
  clear hR hB hg ha hq7
  refine hK.out _ _ trivial (fun hHeld=>?_)
  clear hK K
  refine norm_ (a':=?_) ?_ ?_
  rotate_left
  ·show Act.put _ (some 91) _ = _
   simp only [Act.put,sA,sB,sC,i64_w,i32_w]
   rfl
  refine one_ (i:=10) (N:=some 92) (bm 2047 12) rfl rfl (by kernel_rfl) (by decide) (fun K hK=>?_)
  refine step_app_cut _ (by rfl) (.tmp 85) (.tmp 91) rfl (base:=w.heap.size) (A:=A) (B:=A7) (c:=c7) (xs:=l.take m) (news:=[s] ++ l.drop m) (by rw [HTK.out];rfl) (by rw [← HQ7.out];rfl) (HCT.out _ HB7.out).1 H7.out (by simp) HLL.out (Nat.le_trans HP9.out.bel.size HB7.out.size) HMM.out ?_
  intro v_ w8 hR hB
  obtain ⟨A8,c8,e8⟩:=Kd.R_slice hR
  obtain ⟨q8,hq8⟩:∃ q,q = (l.take m ++ ([s] ++ l.drop m)).length:=⟨_,rfl⟩
  rw [← hq8] at e8
  subst e8
  have HP8:=Aside0.mk (HP9.out.renew (below_then HB7.out HB7.out.size hB) hR)
  clear hR hB hq8
  refine hK.out _ _ trivial (fun hHeld=>?_)
  clear hK K
  refine norm_ (a':=?_) ?_ ?_
  rotate_left
  ·show Act.put _ (some 92) _ = _
   simp only [Act.put,sA,sB,sC,i64_w,i32_w]
   rfl
  refine pure_ (i:=11) (N:=some 3) (v:=?_) (a':=?_) (bm 4095 12) rfl rfl (by kernel_rfl) (fun _ _ _ h=>h) (Or.inl ⟨by rfl,?_⟩) ?_ ?_
  rotate_left
  ·intro w'
   go_simp
   with_reducible rfl
  rotate_left
  ·simp only [Act.put,sA,sB,sC,i64_w,i32_w]
   rfl
  refine done_ (by kernel_rfl) ?_
  clear hHeld hx1 hx2
  go_wp2
  have wk:=HWK.out
  go_roundg gl
  case measure=>omega
  case rel=>exact ⟨i + 1,rollU raw u,_,_,rfl,by simp [wk],⟨⟨by have:=HI.out;omega,HU1.out,HLN.out⟩⟩,HNX,HP8⟩
end Go.Proofs.Ytlcodfjlbhjkbaa.PDelta
end
section
namespace Go.Proofs.Ytlcodfjlbhjkbaa.PDelta
open Go.RowKit Go.Proofs.YtlcodfjlbhjkbaaW.PrintWords Go.Proofs.YtlcodfjlbhjkbaaW.PrintLast Go.Proofs.YtlcodfjlbhjkbaaW.PrintMore
attribute [local go_sem] max2_int min2_int max_two min_two max_three min_three max_four min_four
attribute [local go_sem high] Go.Proofs.Ytlcodfjlbhjkbaa.Ord.leq_str Go.Proofs.Ytlcodfjlbhjkbaa.Ord.gtr_str Go.Proofs.Ytlcodfjlbhjkbaa.Ord.geq_str
noncomputable section
attribute [local go_sem high] eqA128
end
end Go.Proofs.Ytlcodfjlbhjkbaa.PDelta
end
section
namespace Go.Proofs.Ytlcodfjlbhjkbaa.PDelta
open Go.RowKit Go.Proofs.YtlcodfjlbhjkbaaW.PrintWords Go.Proofs.YtlcodfjlbhjkbaaW.PrintLast Go.Proofs.YtlcodfjlbhjkbaaW.PrintMore
attribute [local go_sem] max2_int min2_int max_two min_two max_three min_three max_four min_four
attribute [local go_sem high] Go.Proofs.Ytlcodfjlbhjkbaa.Ord.leq_str Go.Proofs.Ytlcodfjlbhjkbaa.Ord.gtr_str Go.Proofs.Ytlcodfjlbhjkbaa.Ord.geq_str
noncomputable section
attribute [local go_sem high] eqA91 eqA128
end
end Go.Proofs.Ytlcodfjlbhjkbaa.PDelta
end
section
namespace Go.Proofs.Ytlcodfjlbhjkbaa.PDelta
open Go.RowKit Go.Maps Go.Sort Go.Proofs.YtlcodfjlbhjkbaaW.PrintWords Go.Proofs.YtlcodfjlbhjkbaaW.PrintLast Go.Proofs.YtlcodfjlbhjkbaaW.PrintMore
def stLt (a b:S128):Prop:=a.f0 < b.f0 ∨ a.f0 = b.f0 ∧ a.f1 < b.f1
instance (a b:S128):Decidable (stLt a b):=by unfold stLt;infer_instance
def stC (a b:S128):Int:=orI (cmpI a.f0 b.f0) (cmpI a.f1 b.f1)
theorem stC_lt (a b:S128):stC a b < 0 ↔ stLt a b:=by
 unfold stC orI cmpI stLt
 by_cases h1:a.f0 < b.f0
 ·simp [h1]
 ·by_cases h2:b.f0 < a.f0
  ·rw [if_neg h1,if_pos h2];simp;omega
  ·have h3:a.f0 = b.f0:=by omega
   rw [if_neg h1,if_neg h2,if_pos rfl]
   by_cases h4:a.f1 < b.f1
   ·simp [h4,h3]
   ·rw [if_neg h4];split <;> simp <;> omega
theorem stamps_ev (a b:S128):Ev (fun k=>replica_stamps.f k a.f0 a.f1 a.f2 a.f3 a.f4 a.f5 a.f6 a.f7 b.f0 b.f1 b.f2 b.f3 b.f4 b.f5 b.f6 b.f7) (stC a b):=by
 refine Ev.of (fun k=>replica_stamps.mono _ _ _ _ _ _ _ _ _ _ _ _ _ _ _ _ k) (k:=3) ?_
 simp only [replica_stamps.f,cmpi_f,Option.bind_some,or_f]
 rfl
def PlaceOK (s:ByteArray):Prop:=Ev (fun k=>replica_Place.f k s) true
structure OpV (o:S128):Prop where
 clock:1 ≤ o.f0 ∧ o.f0 ≤ 1073741824
 site:0 ≤ o.f1 ∧ o.f1 ≤ 1000
 item:1 ≤ o.f3 ∧ o.f3 ≤ 1073741824
 kind:(o.f2 = 0 ∧ o.f6 = ⟨#[]⟩ ∧ o.f7 = ⟨#[]⟩ ∧ -1 ≤ o.f4 ∧ o.f4 ≤ 1073741824 ∧ PlaceOK o.f5) ∨ (o.f2 = 1 ∧ o.f4 = 0 ∧ o.f5 = ⟨#[]⟩ ∧ NameOK o.f6 ∧ (o.f7 = ⟨#[]⟩ ∨ ValOK o.f7))
theorem emp_nil:(⟨#[]⟩:ByteArray).toList = []:=by rw [ByteArray.toList_eq]
theorem op_ev {o:S128} (h:OpV o):Ev (fun k=>replica_op.f k o.f0 o.f1 o.f2 o.f3 o.f4 o.f5 o.f6 o.f7) 0:=by
 obtain ⟨hc,hs,hi,hk⟩:=h
 obtain ⟨o0,o1,o2,o3,o4,o5,o6,o7⟩:=o
 simp only at hc hs hi hk ⊢
 have d3:decide (o3 > 1073741824) = false:=decide_eq_false (by omega)
 have j0:∀ k,replica_op.j0 (k + 1) false o0 o1 o2 o3 o4 o5 o6 o7 = replica_op.j1 k false o0 o1 o2 o3 o4 o5 o6 o7:=fun k=>by
  rw [replica_op.j0]
  rw [if_neg (by decide),if_neg (by omega),if_neg (by omega),if_neg (by omega),if_neg (by omega),if_neg (by omega),d3]
 rcases hk with ⟨rfl,rfl,rfl,h4,h5,hp⟩ | ⟨rfl,rfl,rfl,hn,hv⟩
 ·have d4:decide (o4 > 1073741824) = false:=decide_eq_false (by omega)
  refine Ev.congr (f:=fun k=>replica_op.j0 k false o0 o1 0 o3 o4 o5 ⟨#[]⟩ ⟨#[]⟩) (fun k=>if_pos rfl) ?_
  refine Ev.step (fun k=>j0 k) (Ev.step (f:=fun k=>replica_op.j2 k false o0 o1 0 o3 o4 o5 ⟨#[]⟩ ⟨#[]⟩) (fun k=>?_) (Ev.step (f:=fun k=>replica_op.j3 k false o0 o1 0 o3 o4 o5 ⟨#[]⟩ ⟨#[]⟩) (fun k=>?_) (Ev.step (f:=fun k=>replica_op.j4 k false o0 o1 0 o3 o4 o5 ⟨#[]⟩ ⟨#[]⟩) (fun k=>?_) (Ev.step (f:=fun k=>(replica_Place.f k o5).bind fun t=>replica_op.j5 k (!t) o0 o1 0 o3 o4 o5 ⟨#[]⟩ ⟨#[]⟩) (fun k=>?_) (Ev.bind hp (Ev.step (f:=fun k=>replica_op.j6 k false o0 o1 0 o3 o4 o5 ⟨#[]⟩ ⟨#[]⟩) (fun k=>?_) (Ev.step (f:=fun _=>some 0) (fun k=>?_) (Ev.now 0))))))))
  ·rw [replica_op.j1]
   rw [if_neg (by decide),if_pos rfl,if_pos emp_nil,emp_nil]
   rfl
  ·rw [replica_op.j2]
   rw [if_neg (by decide),if_neg (by decide)]
  ·rw [replica_op.j3]
   rw [if_neg (by decide),if_pos rfl,if_neg (by omega),d4]
  ·rw [replica_op.j4]
   rw [if_neg (by decide),if_pos rfl]
  ·rw [replica_op.j5]
   rw [if_neg (by decide),if_neg (by decide)]
  ·rw [replica_op.j6]
   rw [if_neg (by decide),if_neg (by decide)]
 ·obtain ⟨b,hb,hbn⟩:=name_ev o6 (by have:=hn.2.1;omega)
  obtain rfl:b = true:=hbn.2 hn
  refine Ev.congr (f:=fun k=>replica_op.j0 k false o0 o1 1 o3 0 ⟨#[]⟩ o6 o7) (fun k=>if_neg (by decide)) ?_
  refine Ev.step (fun k=>j0 k) (Ev.step (f:=fun k=>replica_op.j2 k false o0 o1 1 o3 0 ⟨#[]⟩ o6 o7) (fun k=>?_) (Ev.step (f:=fun k=>replica_op.j3 k false o0 o1 1 o3 0 ⟨#[]⟩ o6 o7) (fun k=>?_) (Ev.step (f:=fun k=>replica_op.j4 k false o0 o1 1 o3 0 ⟨#[]⟩ o6 o7) (fun k=>?_) (Ev.step (f:=fun k=>replica_op.j5 k false o0 o1 1 o3 0 ⟨#[]⟩ o6 o7) (fun k=>?_) (Ev.step (f:=fun k=>(attr_Name.f k o6).bind fun t=>replica_op.j6 k (!t) o0 o1 1 o3 0 ⟨#[]⟩ o6 o7) (fun k=>?_) (Ev.bind hb ?_))))))
  ·rw [replica_op.j1]
   rw [if_neg (by decide),if_neg (by decide)]
  ·rw [replica_op.j2]
   rw [if_neg (by decide),if_pos rfl,if_pos rfl,emp_nil]
   rfl
  ·rw [replica_op.j3]
   rw [if_neg (by decide),if_neg (by decide)]
  ·rw [replica_op.j4]
   rw [if_neg (by decide),if_neg (by decide)]
  ·rw [replica_op.j5]
   rw [if_neg (by decide),if_pos rfl]
  ·rcases hv with rfl | hv
   ·refine Ev.step (f:=fun _=>some 0) (fun k=>?_) (Ev.now 0)
    rw [replica_op.j6]
    rw [if_neg (by decide),if_pos rfl,if_pos emp_nil]
   ·obtain ⟨c,hcv,hcn⟩:=val_ev o7 (by have:=hv.2.1;omega)
    obtain rfl:c = true:=hcn.2 hv
    refine Ev.step (f:=fun k=>(attr_Value.f k o7).bind fun t=>if t = true then some 0 else some 23) (fun k=>?_) (Ev.bind hcv (Ev.congr (fun k=>by rw [if_pos rfl]) (Ev.now 0)))
    rw [replica_op.j6]
    rw [if_neg (by decide),if_pos rfl,if_neg (fun e=>by have:=list_nil.1 e;have:=hv.1;omega)]
theorem rd128 {l:List S128} {i:Nat} (h:i < l.length):rd_T128 l (i:Int) = l[i]:=by
 rw [rd_T128,List.getD_eq_getElem?_getD]
 simp [h]
theorem dcheck_l0 (l:List S128) (hs:l.Pairwise stLt) (hv:∀ o ∈ l,OpV o) (hl:l.length ≤ 1073741824) (d:Nat):∀ i:Nat,i + d = l.length → Ev (fun k=>replica_Check.l0 k l l (l.length:Int) (i:Int)) 0:=by
 induction d with
 | zero =>
  intro i hi
  refine Ev.step (f:=fun _=>some 0) (fun k=>?_) (Ev.now 0)
  rw [replica_Check.l0]
  rw [if_neg (by omega)]
 | succ d ih =>
  intro i hi
  have hlt:i < l.length:=by omega
  have hw:wrap64 ((i:Int) + 1) = ((i + 1:Nat):Int):=by unfold wrap64;omega
  have e:=rd128 hlt
  have ho:=op_ev (hv _ (List.getElem_mem hlt))
  rw [← e] at ho
  have nx:=ih (i + 1) (by omega)
  by_cases h0:i = 0
  ·refine Ev.step (f:=fun k=>(replica_op.f k (rd_T128 l i).f0 (rd_T128 l i).f1 (rd_T128 l i).f2 (rd_T128 l i).f3 (rd_T128 l i).f4 (rd_T128 l i).f5 (rd_T128 l i).f6 (rd_T128 l i).f7).bind fun t=>if t = 0 then replica_Check.l0 k l l (l.length:Int) ((i + 1:Nat):Int) else some t) (fun k=>?_) (Ev.bind ho (Ev.congr (fun k=>by rw [if_pos rfl]) nx))
   rw [replica_Check.l0]
   rw [if_pos (by omega),if_pos (by omega),if_pos (by omega),hw]
   congr 1
   funext t
   split
   ·rw [if_neg (by omega)]
   ·rfl
  ·have hw1:wrap64 ((i:Int) - 1) = ((i - 1:Nat):Int):=by unfold wrap64;omega
   have e1:=rd128 (l:=l) (i:=i - 1) (by omega)
   have hst:stLt (rd_T128 l ((i - 1:Nat):Int)) (rd_T128 l (i:Int)):=by
    rw [e1,e]
    exact List.pairwise_iff_getElem.1 hs (i - 1) i (by omega) hlt (by omega)
   have hneg:=(stC_lt _ _).2 hst
   have hsv:=stamps_ev (rd_T128 l ((i - 1:Nat):Int)) (rd_T128 l (i:Int))
   refine Ev.step (f:=fun k=>(replica_op.f k (rd_T128 l i).f0 (rd_T128 l i).f1 (rd_T128 l i).f2 (rd_T128 l i).f3 (rd_T128 l i).f4 (rd_T128 l i).f5 (rd_T128 l i).f6 (rd_T128 l i).f7).bind fun t=>if t = 0 then (replica_stamps.f k (rd_T128 l ((i - 1:Nat):Int)).f0 (rd_T128 l ((i - 1:Nat):Int)).f1 (rd_T128 l ((i - 1:Nat):Int)).f2 (rd_T128 l ((i - 1:Nat):Int)).f3 (rd_T128 l ((i - 1:Nat):Int)).f4 (rd_T128 l ((i - 1:Nat):Int)).f5 (rd_T128 l ((i - 1:Nat):Int)).f6 (rd_T128 l ((i - 1:Nat):Int)).f7 (rd_T128 l i).f0 (rd_T128 l i).f1 (rd_T128 l i).f2 (rd_T128 l i).f3 (rd_T128 l i).f4 (rd_T128 l i).f5 (rd_T128 l i).f6 (rd_T128 l i).f7).bind (fun s=>if s ≥ 0 then some 5 else replica_Check.l0 k l l (l.length:Int) ((i + 1:Nat):Int)) else some t) (fun k=>?_) (Ev.bind ho (Ev.congr (fun k=>by rw [if_pos rfl]) (Ev.bind hsv (Ev.congr (fun k=>by rw [if_neg (by omega)]) nx))))
   rw [replica_Check.l0]
   rw [if_pos (by omega),if_pos (by omega),if_pos (by omega),hw,hw1]
   congr 1
   funext t
   split
   ·rw [if_pos (by omega),if_pos (by omega),if_pos (by omega)]
   ·rfl
theorem dcheck_ev {l:List S128} (hs:l.Pairwise stLt) (hv:∀ o ∈ l,OpV o) (hl:l.length ≤ 1073741824):Ev (fun k=>replica_Check.f k l) 0:=dcheck_l0 l hs hv hl l.length 0 (by omega)
end Go.Proofs.Ytlcodfjlbhjkbaa.PDelta
end
section
namespace Go.Proofs.Ytlcodfjlbhjkbaa.PDelta
open Go.RowKit Go.Proofs.YtlcodfjlbhjkbaaW.PrintWords Go.Proofs.YtlcodfjlbhjkbaaW.PrintLast Go.Proofs.YtlcodfjlbhjkbaaW.PrintMore
attribute [local go_sem] max2_int min2_int max_two min_two max_three min_three max_four min_four
end Go.Proofs.Ytlcodfjlbhjkbaa.PDelta
end
section
namespace Go.Proofs.Ytlcodfjlbhjkbaa.PDelta
open Go.RowKit Go.Proofs.YtlcodfjlbhjkbaaW.PrintWords Go.Proofs.YtlcodfjlbhjkbaaW.PrintLast Go.Proofs.YtlcodfjlbhjkbaaW.PrintMore
open Go.RowKit Go.Proofs.YtlcodfjlbhjkbaaW.PrintWords Go.Proofs.YtlcodfjlbhjkbaaW.PrintLast Go.Proofs.YtlcodfjlbhjkbaaW.PrintMore
open Go.RowKit Go.Proofs.YtlcodfjlbhjkbaaW.PrintWords Go.Proofs.YtlcodfjlbhjkbaaW.PrintLast Go.Proofs.YtlcodfjlbhjkbaaW.PrintMore
open Go.RowKit Go.Proofs.YtlcodfjlbhjkbaaW.PrintWords Go.Proofs.YtlcodfjlbhjkbaaW.PrintLast Go.Proofs.YtlcodfjlbhjkbaaW.PrintMore
open Go.RowKit Go.Proofs.YtlcodfjlbhjkbaaW.PrintWords Go.Proofs.YtlcodfjlbhjkbaaW.PrintLast Go.Proofs.YtlcodfjlbhjkbaaW.PrintMore
open Go.RowKit Go.Proofs.YtlcodfjlbhjkbaaW.PrintWords Go.Proofs.YtlcodfjlbhjkbaaW.PrintLast Go.Proofs.YtlcodfjlbhjkbaaW.PrintMore
open Go.RowKit Go.Proofs.YtlcodfjlbhjkbaaW.PrintWords Go.Proofs.YtlcodfjlbhjkbaaW.PrintLast Go.Proofs.YtlcodfjlbhjkbaaW.PrintMore
end Go.Proofs.Ytlcodfjlbhjkbaa.PDelta
end
section
namespace Go.Proofs.Ytlcodfjlbhjkbaa.PDelta
open Go.RowKit Go.Maps Go.Sort Go.Proofs.YtlcodfjlbhjkbaaW.PrintWords Go.Proofs.YtlcodfjlbhjkbaaW.PrintLast Go.Proofs.YtlcodfjlbhjkbaaW.PrintMore
section
variable {U:List S128}
end
theorem roll_ev (raw:List Int) (u:Nat) {n:Int} (hn:1 ≤ n) (hn2:n ≤ 1000):∃ x,rollF raw u n = some x ∧ 0 ≤ x ∧ x < n:=by
 have:∃ x,rollF raw u n = some x:=by
  unfold rollF
  split
  ·exact ⟨_,rfl⟩
  ·rw [show wrap64 (n - 1) = n - 1 by unfold wrap64;omega]
   obtain ⟨r,hr,_⟩:=within_ev (wrap64 (rd raw ((u % raw.length:Nat):Int) + (((u + 1) / raw.length:Nat):Int))) (n - 1) (by omega) (by omega)
   exact ⟨r,hr⟩
 obtain ⟨x,hx⟩:=this
 exact ⟨x,hx,roll_range hn hn2 hx⟩
theorem pl_ok {d:Int} (h0:0 ≤ d) (h1:d < 3):PlaceOK (plS d):=by
 obtain rfl | rfl | rfl:d = 0 ∨ d = 1 ∨ d = 2:=by omega
 ·exact Ev.of (fun k=>replica_Place.mono _ k) (k:=6) (by kernel_rfl)
 ·exact Ev.of (fun k=>replica_Place.mono _ k) (k:=6) (by kernel_rfl)
 ·exact Ev.of (fun k=>replica_Place.mono _ k) (k:=6) (by kernel_rfl)
theorem play_keys (P:Int → Prop) (k:Nat):∀ (l:List S128) (b bE:Brd),playF k l b = some bE → (∀ o ∈ l,P o.f3) → (∀ x ∈ b.its,P x.f0) → ∀ x ∈ bE.its,P x.f0
 | [],b,bE,h,_,hb=>by cases h;exact hb
 | o :: l,b,bE,h,hl,hb=>by
  have hl':∀ o ∈ l,P o.f3:=fun x hx=>hl x (List.mem_cons_of_mem _ hx)
  unfold playF at h
  split at h
  ·obtain ⟨r,hr,h⟩:=Option.bind_eq_some_iff.1 h
   exact play_keys P k l _ bE h hl' hb
  ·obtain ⟨t,ht,h⟩:=Option.bind_eq_some_iff.1 h
   split at h
   ·exact play_keys P k l b bE h hl' hb
   ·refine play_keys P k l _ bE h hl' (fun x hx=>?_)
    rcases List.mem_append.1 hx with hx | hx
    ·exact hb x (List.mem_filter.1 hx).1
    ·obtain rfl:x = _:=by simpa using hx
     exact hl o List.mem_cons_self
theorem i64_wf {x:Int} (h0:-9223372036854775808 ≤ x) (h1:x ≤ 9223372036854775807):(Lit.int .i64 x).wf = true:=by
 have e1:IntKind.i64.min = -9223372036854775808:=by rfl
 have e2:IntKind.i64.max = 9223372036854775807:=by rfl
 simp [Lit.wf,e1,e2,h0,h1]
theorem OpV.ok {o:S128} (h:OpV o):OpOK o:=by
 have h1:=h.item
 refine ⟨i64_wf (by omega) (by omega),?_⟩
 rcases h.kind with ⟨_,_,_,h4,h5,_⟩ | ⟨_,h4,_⟩
 ·exact i64_wf (by omega) (by omega)
 ·rw [h4];decide
theorem drawn_ev {l:List S128} (hv:∀ o ∈ l,OpV o) (hl:l.length ≤ 1073741824):∃ k b,playF k l ⟨[],[]⟩ = some b ∧ BOK b ∧ b.its.length ≤ l.length ∧ (∀ i,(b.atD i).length ≤ l.length) ∧ replica_Raw.f l = some ((orderL b).map (fillF b)):=by
 obtain ⟨k,b,h1,h2,h3,h4,h5⟩:=items_some l (fun o ho=>by have:=(hv o ho).item;omega) hl
 refine ⟨k,b,h1,h2,h3,h4,rawis_f ⟨k,b,h1,h2,by omega,?_,fun o ho=>(hv o ho).ok,rfl⟩⟩
 exact play_keys (fun i=>(Lit.int .i64 i).wf = true) k l _ b h1 (fun o ho=>(hv o ho).ok.1) (fun x hx=>by cases hx)
theorem items_ev {l:List S128} (hs:l.Pairwise stLt) (hv:∀ o ∈ l,OpV o) (hl:l.length ≤ 1073741824) {r:List S87} (h:replica_Raw.f l = some r):Ev (fun k=>replica_Items.f k l) (r,0):=by
 unfold replica_Items.f
 exact Ev.bind (dcheck_ev hs hv hl) (Ev.congr (fun k=>by rw [if_pos rfl,h];rfl) (Ev.now _))
def drawOps:List S128:=[⟨1,1,0,5,0,⟨#[98]⟩,⟨#[]⟩,⟨#[]⟩⟩,⟨2,1,0,6,5,⟨#[98]⟩,⟨#[]⟩,⟨#[]⟩⟩]
theorem drawOps_ok:(∀ o ∈ drawOps,OpV o) ∧ drawOps.Pairwise stLt:=by
 have hp:PlaceOK ⟨#[98]⟩:=pl_ok (d:=0) (by omega) (by omega)
 refine ⟨fun o ho=>?_,?_⟩
 ·simp only [drawOps,List.mem_cons,List.not_mem_nil,or_false] at ho
  rcases ho with rfl | rfl
  ·exact ⟨by decide,by decide,by decide,.inl ⟨rfl,rfl,rfl,by decide,by decide,hp⟩⟩
  ·exact ⟨by decide,by decide,by decide,.inl ⟨rfl,rfl,rfl,by decide,by decide,hp⟩⟩
 ·simp [drawOps,stLt]
theorem draws_ev:Ev (fun k=>chancerykeep1_draws.f k) true:=by
 obtain ⟨k,b,h1,h2,h3,h4,h5⟩:=drawn_ev drawOps_ok.1 (by decide)
 have hi:=items_ev drawOps_ok.2 drawOps_ok.1 (by decide) h5
 have hb:b = ⟨[⟨5,0,⟨#[98]⟩,[]⟩,⟨6,5,⟨#[98]⟩,[]⟩],[]⟩:=by
  have e:playF 5 drawOps ⟨[],[]⟩ = some ⟨[⟨5,0,⟨#[98]⟩,[]⟩,⟨6,5,⟨#[98]⟩,[]⟩],[]⟩:=by kernel_rfl
  have:=(play_le h1 (Nat.le_max_left k 5)).symm.trans (play_le e (Nat.le_max_right k 5))
  exact Option.some.inj this
 subst hb
 refine Ev.bind hi (Ev.congr (f:=fun _=>some true) (fun k=>?_) (Ev.now true))
 kernel_rfl
end Go.Proofs.Ytlcodfjlbhjkbaa.PDelta
end

/- Parts of the proof of Betw: nothing is claimed here by itself. -/
import Derived.Test.YtlcodfjlbhjkbaaKBetw3
set_option linter.unusedVariables false
set_option linter.unusedSimpArgs false
section
namespace Go.Proofs.Ytlcodfjlbhjkbaa.PDelta
open Go.RowKit Go.Proofs.YtlcodfjlbhjkbaaW.PrintWords Go.Proofs.YtlcodfjlbhjkbaaW.PrintLast Go.Proofs.YtlcodfjlbhjkbaaW.PrintMore
def ltI:List Int → List Int → Bool
 | _,[]=>false
 | [],_ :: _=>true
 | a :: x,b :: y=>decide (a < b) || (decide (a = b) && ltI x y)
theorem ltI_cons {a b:Int} {x y:List Int}:ltI (a :: x) (b :: y) = true ↔ a < b ∨ (a = b ∧ ltI x y = true):=by
 simp [ltI]
def il (s:ByteArray):List Int:=s.toList.map fun b=>(b.toNat:Int)
theorem lt_bytes:∀ (x y:List UInt8),Op.bytesLess x y = ltI (x.map fun b=>(b.toNat:Int)) (y.map fun b=>(b.toNat:Int))
 | [],[]=>rfl
 | a :: x,[]=>rfl
 | [],b :: y=>rfl
 | a :: x,b :: y=>by
  rw [List.map_cons,List.map_cons,ltI,Op.bytesLess,lt_bytes x y]
  have h1:(decide (a < b)) = decide ((a.toNat:Int) < (b.toNat:Int)):=by
   rw [Bool.eq_iff_iff,decide_eq_true_iff,decide_eq_true_iff,UInt8.lt_iff_toNat_lt]
   omega
  have h2:(a == b) = decide ((a.toNat:Int) = (b.toNat:Int)):=by
   rw [Bool.eq_iff_iff,beq_iff_eq,decide_eq_true_iff]
   constructor
   ·rintro rfl;rfl
   ·intro h;exact UInt8.toNat_inj.1 (by omega)
  rw [h1,h2]
theorem lt_il (s t:ByteArray):Op.bytesLess s.toList t.toList = ltI (il s) (il t):=lt_bytes _ _
theorem il_length (s:ByteArray):(il s).length = s.size:=by unfold il;rw [List.length_map,ByteArray.toList_eq];rfl
theorem il_bt (s:ByteArray) (i:Nat) (h:i < s.size):bt s (i:Int) = (il s)[i]'(by rw [il_length];exact h):=by
 unfold bt il
 rw [dif_pos (by rw [Int.toNat_natCast];exact h)]
 simp only [Int.toNat_natCast,List.getElem_map,ByteArray.toList_eq]
 rfl
theorem il_nil {s:ByteArray}:s.toList = ([]:List UInt8) ↔ il s = []:=by unfold il;rw [List.map_eq_nil_iff]
theorem il_str (xs:List Int) (h:∀ x ∈ xs,0 ≤ x ∧ x ≤ 255):il (strOfNums xs) = xs:=by
 unfold il
 rw [ByteArray.toList_eq,strOfNums_data,List.map_map]
 conv=>rhs;rw [← List.map_id xs]
 apply List.map_congr_left
 intro x hx
 have:=h x hx
 show (((UInt8.ofNat x.toNat).toNat:Nat):Int) = x
 rw [UInt8.toNat_ofNat']
 omega
def betO:List Int → List Int
 | []=>[110]
 | x :: t=>if 123 - x ≥ 2 then [x + (123 - x) / 2] else x :: betO t
def betS:List Int → List Int → List Int
 | _,[]=>[]
 | a,y :: b =>
  let x:=a.headD 97
  if y - x ≥ 2 then [x + (y - x) / 2] else x :: (if y > x then betO a.tail else betS a.tail b)
def InR (a:List Int):Prop:=∀ x ∈ a,97 ≤ x ∧ x ≤ 122
structure PlaceL (a:List Int):Prop where
 inr:InR a
 last:∃ p x,a = p ++ [x] ∧ x ≠ 97
theorem PlaceL.ne {a:List Int} (h:PlaceL a):a ≠ []:=by obtain ⟨p,x,rfl,_⟩:=h.last;simp
theorem PlaceL.one {x:Int} (h1:97 < x) (h2:x ≤ 122):PlaceL [x]:=by
 refine ⟨fun y hy=>?_,[],x,rfl,by omega⟩
 have e:y = x:=by simpa using hy
 omega
theorem PlaceL.cons {x:Int} {a:List Int} (h1:97 ≤ x ∧ x ≤ 122) (h:PlaceL a):PlaceL (x :: a):=by
 obtain ⟨p,z,rfl,hz⟩:=h.last
 exact ⟨fun y hy=>(by
  rcases List.mem_cons.1 hy with rfl | hy
  ·exact h1
  ·exact h.inr y hy),x :: p,z,rfl,hz⟩
theorem PlaceL.tail {x:Int} {a:List Int} (h:PlaceL (x :: a)) (ha:a ≠ []):PlaceL a:=by
 obtain ⟨p,z,e,hz⟩:=h.last
 refine ⟨fun y hy=>h.inr y (List.mem_cons_of_mem _ hy),?_⟩
 cases p with
 | nil =>
  simp at e
  exact absurd e.2 ha
 | cons q p =>
  simp at e
  exact ⟨p,z,e.2,hz⟩
theorem InR.tail {a:List Int} (h:InR a):InR a.tail:=fun x hx=>h x (List.mem_of_mem_tail hx)
theorem InR.head {a:List Int} (h:InR a):97 ≤ a.headD 97 ∧ a.headD 97 ≤ 122:=by
 cases a with
 | nil=>simp
 | cons x a=>exact h x List.mem_cons_self
theorem betO_ok:∀ (a:List Int),InR a → ltI a (betO a) = true ∧ PlaceL (betO a) ∧ (betO a).length ≤ a.length + 1
 | [],_=>⟨rfl,.one (by decide) (by decide),by simp [betO]⟩
 | x :: t,h=>by
  have hx:=h x List.mem_cons_self
  unfold betO
  by_cases c:123 - x ≥ 2
  ·rw [if_pos c]
   exact ⟨ltI_cons.2 (.inl (by omega)),.one (by omega) (by omega),by simp⟩
  ·rw [if_neg c]
   obtain ⟨h1,h2,h3⟩:=betO_ok t (h.tail)
   exact ⟨ltI_cons.2 (.inr ⟨rfl,h1⟩),.cons hx h2,by simp only [List.length_cons];omega⟩
theorem ltI_ne {a b:List Int} (h:ltI a b = true):b ≠ []:=by
 rintro rfl
 cases a <;> simp [ltI] at h
theorem betS_key {a b:List Int} {y:Int} (ha:InR a) (hl:ltI a (y :: b) = true ∨ a = []) (hb:PlaceL (y :: b)) (d:¬ y > a.headD 97):a.headD 97 = y ∧ (ltI a.tail b = true ∨ a.tail = []) ∧ b ≠ []:=by
 have hy:=hb.inr y List.mem_cons_self
 cases a with
 | nil =>
  simp only [List.headD_nil,List.tail_nil] at *
  have e:y = 97:=by omega
  refine ⟨e.symm,.inr trivial,fun hn=>?_⟩
  subst hn
  obtain ⟨p,z,e2,hz⟩:=hb.last
  cases p with
  | nil =>
   simp at e2
   omega
  | cons q p =>
   simp at e2
 | cons x t =>
  simp only [List.headD_cons,List.tail_cons] at *
  rcases hl with hl | hl
  ·rcases ltI_cons.1 hl with h1 | ⟨h1,h2⟩
   ·omega
   ·exact ⟨h1,.inl h2,ltI_ne h2⟩
  ·cases hl
theorem betS_ok:∀ (b a:List Int),InR a → (ltI a b = true ∨ a = []) → PlaceL b → ltI a (betS a b) = true ∧ ltI (betS a b) b = true ∧ PlaceL (betS a b) ∧ (betS a b).length ≤ max a.length b.length + 1
 | [],_,_,_,hb=>absurd rfl hb.ne
 | y :: b,a,ha,hl,hb=>by
  have hx:=ha.head
  have hy:=hb.inr y List.mem_cons_self
  unfold betS
  by_cases c:y - a.headD 97 ≥ 2
  ·simp only [if_pos c]
   refine ⟨?_,ltI_cons.2 (.inl (by omega)),.one (by omega) (by omega),by simp⟩
   cases a with
   | nil=>rfl
   | cons x t =>
    simp only [List.headD_cons] at *
    exact ltI_cons.2 (.inl (by omega))
  ·simp only [if_neg c]
   by_cases d:y > a.headD 97
   ·simp only [if_pos d]
    obtain ⟨h1,h2,h3⟩:=betO_ok a.tail ha.tail
    refine ⟨?_,ltI_cons.2 (.inl d),.cons hx h2,?_⟩
    ·cases a with
     | nil=>rfl
     | cons x t=>exact ltI_cons.2 (.inr ⟨rfl,h1⟩)
    ·simp only [List.length_cons,List.length_tail] at *
     omega
   ·simp only [if_neg d]
    have key:=betS_key ha hl hb d
    obtain ⟨h1,h2,h3,h4⟩:=betS_ok b a.tail ha.tail key.2.1 (hb.tail key.2.2)
    refine ⟨?_,ltI_cons.2 (.inr ⟨key.1,h2⟩),.cons hx h3,?_⟩
    ·cases a with
     | nil=>rfl
     | cons x t=>exact ltI_cons.2 (.inr ⟨rfl,h1⟩)
    ·simp only [List.length_cons,List.length_tail] at *
     omega
theorem drop_nil_i {s:ByteArray} {i:Nat} (h:(il s).drop i = []):¬ (i:Int) < (s.size:Int):=by
 rw [List.drop_eq_nil_iff,il_length] at h
 omega
theorem drop_cons_i {s:ByteArray} {i:Nat} {c:Int} {r:List Int} (h:(il s).drop i = c :: r):(i:Int) < (s.size:Int) ∧ bt s (i:Int) = c ∧ (il s).drop (i + 1) = r:=by
 have hi:i < (il s).length:=by
  rcases Nat.lt_or_ge i (il s).length with h' | h'
  ·exact h'
  ·rw [List.drop_eq_nil_of_le h'] at h;cases h
 have h2:=List.drop_eq_getElem_cons hi
 rw [h] at h2
 injection h2 with h3 h4
 have hi':i < s.size:=by rw [← il_length];exact hi
 exact ⟨by omega,by rw [il_bt s i hi',← h3],h4.symm⟩
theorem w64s {x:Int} (h1:-1000000 ≤ x) (h2:x ≤ 1000000):wrap64 x = x:=by unfold wrap64;omega
theorem j3_open_stop (k:Nat) (a b:ByteArray) (out:List Int) (i x:Int) (h0:0 ≤ x) (h1:26 - x ≥ 2) (hl:out.length + 1 ≤ 200) :
 replica_Between.j3 (k + 1) a b out i true x 26 = some (strOfNums (out ++ [97 + x + (26 - x) / 2]),0):=by
 unfold replica_Between.j3
 rw [if_pos rfl,w64s (x:=26 - x) (by omega) (by omega),if_pos h1,if_pos (by omega),Int.tdiv_eq_ediv_of_nonneg (by omega),w64s (x:=97 + x) (by omega) (by omega),w64s (x:=(26 - x) / 2) (by omega) (by omega),w64s (by omega) (by omega)]
 rw [show (97 + x + (26 - x) / 2) % 256 = 97 + x + (26 - x) / 2 by omega]
 show (if _ then _ else _) = _
 rw [if_neg (by rw [List.length_append];simp only [List.length_cons,List.length_nil];omega)]
theorem j3_open_go (k:Nat) (a b:ByteArray) (out:List Int) (i:Nat) (x:Int) (h0:0 ≤ x) (hx:x ≤ 25) (h1:¬ 26 - x ≥ 2) (hl:out.length + 1 ≤ 200) (hi:i ≤ 1000) :
 replica_Between.j3 (k + 1) a b out (i:Int) true x 26 = replica_Between.l0 k a b (out ++ [97 + x]) ((i + 1:Nat):Int) true:=by
 rw [replica_Between.j3]
 rw [if_pos rfl,w64s (x:=26 - x) (by omega) (by omega),if_neg h1,if_pos (by omega),w64s (x:=97 + x) (by omega) (by omega),w64s (x:=(i:Int) + 1) (by omega) (by omega)]
 rw [show (97 + x) % 256 = 97 + x by omega]
 rfl
theorem l0_some (k:Nat) (a b:ByteArray) (out:List Int) (i:Nat) (o:Bool) (c:Int) (r:List Int) (h:(il a).drop i = c :: r) (h1:97 ≤ c) (h2:c ≤ 122) :
 replica_Between.l0 (k + 1) a b out (i:Int) o = replica_Between.j3 k a b out (i:Int) o (c - 97) 26:=by
 obtain ⟨g1,g2,_⟩:=drop_cons_i h
 rw [replica_Between.l0,if_pos g1,if_pos (by omega),g2,show (c - 97) % 256 = c - 97 by omega]
theorem l0_none (k:Nat) (a b:ByteArray) (out:List Int) (i:Nat) (o:Bool) (h:(il a).drop i = []) :
 replica_Between.l0 (k + 1) a b out (i:Int) o = replica_Between.j3 k a b out (i:Int) o 0 26:=by
 rw [replica_Between.l0,if_neg (drop_nil_i h)]
theorem loopO (a b:ByteArray):∀ (t:List Int) (i:Nat) (out:List Int) (k:Nat),(il a).drop i = t → InR t → 2 * t.length + 2 ≤ k → i + t.length ≤ 1000 → out.length + (betO t).length ≤ 200 →
 replica_Between.l0 k a b out (i:Int) true = some (strOfNums (out ++ betO t),0)
 | [],i,out,k,h,hr,hk,hi,hl=>by
  obtain ⟨k,rfl⟩:∃ n,k = n + 2:=⟨k - 2,by simp at hk;omega⟩
  rw [l0_none (k + 1) a b out i true h,j3_open_stop k a b out i 0 (by decide) (by decide) (by simp [betO] at hl;omega)]
  rfl
 | c :: r,i,out,k,h,hr,hk,hi,hl=>by
  simp only [List.length_cons] at hk hi
  have hc:=hr c List.mem_cons_self
  obtain ⟨k,rfl⟩:∃ n,k = n + 2:=⟨k - 2,by omega⟩
  rw [l0_some (k + 1) a b out i true c r h hc.1 hc.2]
  unfold betO at hl ⊢
  by_cases d:123 - c ≥ 2
  ·rw [if_pos d] at hl ⊢
   rw [j3_open_stop k a b out i (c - 97) (by omega) (by omega) (by simpa using hl)]
   congr 4
   have:97 + (c - 97) + (26 - (c - 97)) / 2 = c + (123 - c) / 2:=by omega
   rw [this]
  ·rw [if_neg d] at hl ⊢
   simp only [List.length_cons] at hl
   rw [j3_open_go k a b out i (c - 97) (by omega) (by omega) (by omega) (by omega) (by omega),show 97 + (c - 97) = c by omega]
   rw [loopO a b r (i + 1) (out ++ [c]) k (drop_cons_i h).2.2 hr.tail (by omega) (by omega) (by rw [List.length_append];simp only [List.length_cons,List.length_nil];omega)]
   rw [List.append_assoc]
   rfl
theorem j3_shut_stop (k:Nat) (a b:ByteArray) (out:List Int) (i:Nat) (x y:Int) (r:List Int) (hb:(il b).drop i = y :: r) (hy:97 ≤ y ∧ y ≤ 122) (h0:97 ≤ x) (hx:x ≤ 122) (h1:y - x ≥ 2) (hl:out.length + 1 ≤ 200) :
 replica_Between.j3 (k + 1) a b out (i:Int) false (x - 97) 26 = some (strOfNums (out ++ [x + (y - x) / 2]),0):=by
 obtain ⟨g1,g2,_⟩:=drop_cons_i hb
 have e1:(y - 97) % 256 - (x - 97) = y - x:=by omega
 unfold replica_Between.j3
 rw [if_neg (by decide),if_pos (by omega),if_pos g1,g2,e1,w64s (x:=y - x) (by omega) (by omega),if_pos h1,if_pos (by omega),Int.tdiv_eq_ediv_of_nonneg (by omega),show 97 + (x - 97) = x by omega,w64s (x:=x) (by omega) (by omega),w64s (x:=(y - x) / 2) (by omega) (by omega),w64s (by omega) (by omega)]
 rw [show (x + (y - x) / 2) % 256 = x + (y - x) / 2 by omega]
 show (if _ then _ else _) = _
 rw [if_neg (by rw [List.length_append];simp only [List.length_cons,List.length_nil];omega)]
theorem j3_shut_go (k:Nat) (a b:ByteArray) (out:List Int) (i:Nat) (x y:Int) (r:List Int) (hb:(il b).drop i = y :: r) (hy:97 ≤ y ∧ y ≤ 122) (h0:97 ≤ x) (hx:x ≤ 122) (h1:¬ y - x ≥ 2) (hl:out.length + 1 ≤ 200) (hi:i ≤ 1000) :
 replica_Between.j3 (k + 1) a b out (i:Int) false (x - 97) 26 = replica_Between.l0 k a b (out ++ [x]) ((i + 1:Nat):Int) (decide (y > x)):=by
 obtain ⟨g1,g2,_⟩:=drop_cons_i hb
 have e1:(y - 97) % 256 - (x - 97) = y - x:=by omega
 have e2:(decide ((y - 97) % 256 > x - 97)) = decide (y > x):=by
  rw [Bool.eq_iff_iff,decide_eq_true_iff,decide_eq_true_iff]
  omega
 rw [replica_Between.j3]
 rw [if_neg (by decide),if_pos (by omega),if_pos g1,g2,e1,e2,w64s (x:=y - x) (by omega) (by omega),if_neg h1,if_pos (by omega),show 97 + (x - 97) = x by omega,w64s (x:=x) (by omega) (by omega),w64s (x:=(i:Int) + 1) (by omega) (by omega)]
 rw [show x % 256 = x by omega]
 rfl
theorem drop_tail {l t:List Int} {i:Nat} (h:l.drop i = t):l.drop (i + 1) = t.tail:=by rw [← h,List.tail_drop]
theorem loopS (a b:ByteArray):∀ (tb:List Int) (i:Nat) (ta out:List Int) (k:Nat),(il b).drop i = tb → (il a).drop i = ta → InR ta → (ltI ta tb = true ∨ ta = []) → PlaceL tb → 2 * (ta.length + tb.length) + 4 ≤ k → i + ta.length + tb.length ≤ 1000 → out.length + (betS ta tb).length ≤ 200 →
 replica_Between.l0 k a b out (i:Int) false = some (strOfNums (out ++ betS ta tb),0)
 | [],i,ta,out,k,_,_,_,_,hp,_,_,_=>absurd rfl hp.ne
 | y :: b',i,ta,out,k,hb,ha,hr,hl,hp,hk,hi,hn=>by
  simp only [List.length_cons] at hk hi
  have hx:=hr.head
  have hy:=hp.inr y List.mem_cons_self
  obtain ⟨k,rfl⟩:∃ n,k = n + 2:=⟨k - 2,by omega⟩
  have e0:replica_Between.l0 (k + 2) a b out (i:Int) false = replica_Between.j3 (k + 1) a b out (i:Int) false (ta.headD 97 - 97) 26:=by
   cases ta with
   | nil=>exact l0_none (k + 1) a b out i false ha
   | cons c r=>exact l0_some (k + 1) a b out i false c r ha hx.1 hx.2
  have hlt:ta.tail.length ≤ ta.length:=by rw [List.length_tail];omega
  rw [e0]
  unfold betS at hn ⊢
  by_cases c:y - ta.headD 97 ≥ 2
  ·simp only [if_pos c] at hn ⊢
   exact j3_shut_stop k a b out i _ y b' hb hy hx.1 hx.2 c (by simpa using hn)
  ·simp only [if_neg c,List.length_cons] at hn ⊢
   rw [j3_shut_go k a b out i _ y b' hb hy hx.1 hx.2 c (by omega) (by omega)]
   by_cases d:y > ta.headD 97
   ·simp only [if_pos d] at hn ⊢
    rw [decide_eq_true d,loopO a b ta.tail (i + 1) _ k (drop_tail ha) hr.tail (by omega) (by omega) (by rw [List.length_append];simp only [List.length_cons,List.length_nil];omega),List.append_assoc]
    rfl
   ·simp only [if_neg d] at hn ⊢
    have key:=betS_key hr hl hp d
    rw [decide_eq_false d,loopS a b b' (i + 1) ta.tail _ k (drop_tail hb) (drop_tail ha) hr.tail key.2.1 (hp.tail key.2.2) (by omega) (by omega) (by rw [List.length_append];simp only [List.length_cons,List.length_nil];omega),List.append_assoc]
    rfl
theorem place_loop (s:ByteArray) (h:InR (il s)):∀ (t:List Int) (i k:Nat),(il s).drop i = t → t.length + 1 ≤ k → i + t.length ≤ 1000 → replica_Place.l0 k s (s.size:Int) (i:Int) = some true
 | [],i,k,ht,hk,hi=>by
  obtain ⟨k,rfl⟩:∃ n,k = n + 1:=⟨k - 1,by simp at hk;omega⟩
  rw [replica_Place.l0,if_neg (drop_nil_i ht)]
 | c :: r,i,k,ht,hk,hi=>by
  simp only [List.length_cons] at hk hi
  obtain ⟨k,rfl⟩:∃ n,k = n + 1:=⟨k - 1,by omega⟩
  obtain ⟨g1,g2,g3⟩:=drop_cons_i ht
  have hc:=h c (List.mem_of_mem_drop (ht ▸ List.mem_cons_self))
  rw [replica_Place.l0,if_pos g1,if_pos (by omega),if_pos g1,g2,if_neg (by omega),if_neg (by omega),w64s (x:=(i:Int) + 1) (by omega) (by omega)]
  exact place_loop s h r (i + 1) k g3 (by omega) (by omega)
theorem place_ev (s:ByteArray) (h:PlaceL (il s)) (hs:s.size ≤ 200) (k:Nat) (hk:s.size + 3 ≤ k):replica_Place.f k s = some true:=by
 have hne:il s ≠ []:=h.ne
 have hlen:=il_length s
 have hp:0 < s.size:=by
  rw [← hlen]
  exact List.length_pos_iff.2 hne
 obtain ⟨k,rfl⟩:∃ n,k = n + 1:=⟨k - 1,by omega⟩
 have hb:bt s ((s.size - 1:Nat):Int) ≠ 97:=by
  rw [il_bt s (s.size - 1) (by omega)]
  obtain ⟨p,x,e,hx⟩:=h.last
  have:p.length = s.size - 1:=by rw [← hlen,e,List.length_append];simp
  have e2:(il s)[s.size - 1]'(by omega) = x:=by
   simp only [e]
   rw [List.getElem_append_right (by omega)]
   simp [this]
  rw [e2]
  exact hx
 unfold replica_Place.f
 rw [if_neg (fun e=>hne (il_nil.1 e)),if_neg (by omega),show (s.size:Int) - 1 = ((s.size - 1:Nat):Int) by omega,w64s (by omega) (by omega),if_pos (by omega),if_pos (by omega),beq_eq_false_iff_ne.2 hb,replica_Place.j0,if_neg (by decide)]
 exact place_loop s h.inr (il s) 0 k rfl (by omega) (by omega)
theorem between_ev (a b:ByteArray) (ha:il a ≠ [] → PlaceL (il a)) (hb:il b ≠ [] → PlaceL (il b)) (hab:il a ≠ [] → il b ≠ [] → ltI (il a) (il b) = true) (hs:a.size ≤ 100 ∧ b.size ≤ 100) (k:Nat) (hk:500 ≤ k) :
 ∃ s,replica_Between.f k a b = some (s,0) ∧ PlaceL (il s) ∧ s.size ≤ max a.size b.size + 1 ∧ (il a ≠ [] → ltI (il a) (il s) = true) ∧ (il b ≠ [] → ltI (il s) (il b) = true):=by
 have la:=il_length a
 have lb:=il_length b
 have hra:InR (il a):=fun x hx=>(ha (List.ne_nil_of_mem hx)).inr x hx
 obtain ⟨k,rfl⟩:∃ n,k = n + 2:=⟨k - 2,by omega⟩
 have e0:replica_Between.f (k + 2) a b = replica_Between.j0 (k + 2) a b false:=by
  unfold replica_Between.f
  by_cases c1:a.toList = ([]:List UInt8)
  ·rw [if_pos c1]
   by_cases c2:b.toList = ([]:List UInt8)
   ·rw [if_pos c2]
   ·rw [if_neg c2,place_ev b (hb (fun e=>c2 (il_nil.2 e))) (by omega) _ (by omega)]
    rfl
  ·rw [if_neg c1,place_ev a (ha (fun e=>c1 (il_nil.2 e))) (by omega) _ (by omega)]
   rw [Option.bind_some,if_pos rfl]
   by_cases c2:b.toList = ([]:List UInt8)
   ·rw [if_pos c2]
   ·rw [if_neg c2,place_ev b (hb (fun e=>c2 (il_nil.2 e))) (by omega) _ (by omega)]
    rfl
 have e1:replica_Between.j0 (k + 2) a b false = replica_Between.l0 k a b [] ((0:Nat):Int) (b.toList == ([]:List UInt8)):=by
  rw [replica_Between.j0,if_neg (by decide)]
  have ej:replica_Between.j1 (k + 1) a b false = replica_Between.l0 k a b [] ((0:Nat):Int) (b.toList == ([]:List UInt8)):=by
   rw [replica_Between.j1,if_neg (by decide)]
   rfl
  by_cases c1:a.toList = ([]:List UInt8)
  ·rw [if_pos c1,ej]
  ·rw [if_neg c1]
   by_cases c2:b.toList = ([]:List UInt8)
   ·rw [if_pos c2,ej]
   ·rw [if_neg c2,lt_il,hab (fun e=>c1 (il_nil.2 e)) (fun e=>c2 (il_nil.2 e))]
    exact ej
 rw [e0,e1]
 by_cases c2:il b = []
 ·obtain ⟨h1,h2,h3⟩:=betO_ok (il a) hra
  have hrr:∀ x ∈ betO (il a),0 ≤ x ∧ x ≤ 255:=fun x hx=>by have:=h2.inr x hx;omega
  refine ⟨strOfNums (betO (il a)),?_,by rw [il_str _ hrr];exact h2,by rw [strOfNums_size];omega,fun _=>by rw [il_str _ hrr];exact h1,fun h=>absurd c2 h⟩
  rw [beq_iff_eq.2 (il_nil.2 c2),loopO a b (il a) 0 [] k rfl hra (by omega) (by omega) (by simp only [List.length_nil];omega)]
  rfl
 ·have hlt:ltI (il a) (il b) = true ∨ il a = []:=by
   by_cases c1:il a = []
   ·exact .inr c1
   ·exact .inl (hab c1 c2)
  obtain ⟨h0,h1,h2,h3⟩:=betS_ok (il b) (il a) hra hlt (hb c2)
  have hrr:∀ x ∈ betS (il a) (il b),0 ≤ x ∧ x ≤ 255:=fun x hx=>by have:=h2.inr x hx;omega
  refine ⟨strOfNums (betS (il a) (il b)),?_,by rw [il_str _ hrr];exact h2,by rw [strOfNums_size];omega,fun _=>by rw [il_str _ hrr];exact h0,fun _=>by rw [il_str _ hrr];exact h1⟩
  rw [beq_eq_false_iff_ne.2 (fun e=>c2 (il_nil.1 e)),loopS a b (il b) 0 (il a) [] k rfl rfl hra hlt (hb c2) (by omega) (by omega) (by simp only [List.length_nil];omega)]
  rfl
structure LOK (l:List ByteArray):Prop where
 place:∀ s ∈ l,PlaceL (il s)
 size:∀ s ∈ l,s.size ≤ l.length
 sorted:l.Pairwise (fun s t=>ltI (il s) (il t) = true)
theorem il_eS:il eS = []:=il_nil.1 eS_nil
theorem plA_cases (l:List ByteArray) (m:Nat) (hm:m ≤ l.length):(0 < m ∧ ∃ h:m - 1 < l.length,plA l m = l[m - 1]'h) ∨ (m = 0 ∧ plA l m = eS):=by
 unfold plA
 by_cases h:0 < m
 ·have h1:m - 1 < l.length:=by omega
  exact .inl ⟨h,h1,by rw [if_pos h,List.getD_eq_getElem?_getD,List.getElem?_eq_getElem h1];rfl⟩
 ·exact .inr ⟨by omega,by rw [if_neg h]⟩
theorem plB_cases (l:List ByteArray) (m:Nat):(∃ h:m < l.length,plB l m = l[m]'h) ∨ (¬ m < l.length ∧ plB l m = eS):=by
 unfold plB
 by_cases h:m < l.length
 ·exact .inl ⟨h,by rw [if_pos h,List.getD_eq_getElem?_getD,List.getElem?_eq_getElem h];rfl⟩
 ·exact .inr ⟨h,by rw [if_neg h]⟩
theorem ltI_trans (a b c:ByteArray) (h1:ltI (il a) (il b) = true) (h2:ltI (il b) (il c) = true):ltI (il a) (il c) = true:=by
 rw [← lt_il] at h1 h2 ⊢
 exact Ord.less_trans h1 h2
theorem insStep_ev {l:List ByteArray} (h:LOK l) (hl:l.length ≤ 60) {m:Nat} (hm:m ≤ l.length) (k:Nat) (hk:500 ≤ k) :
 ∃ s,StepAt k l m s ∧ LOK (l.take m ++ s :: l.drop m):=by
 have hA:il (plA l m) ≠ [] → ∃ hh:0 < m ∧ m - 1 < l.length,plA l m = l[m - 1]'hh.2:=fun hn=>by
  rcases plA_cases l m hm with ⟨h1,h2,h3⟩ | ⟨_,h3⟩
  ·exact ⟨⟨h1,h2⟩,h3⟩
  ·rw [h3,il_eS] at hn
   exact absurd rfl hn
 have hB:il (plB l m) ≠ [] → ∃ hh:m < l.length,plB l m = l[m]'hh:=fun hn=>by
  rcases plB_cases l m with ⟨h2,h3⟩ | ⟨_,h3⟩
  ·exact ⟨h2,h3⟩
  ·rw [h3,il_eS] at hn
   exact absurd rfl hn
 have sA:(plA l m).size ≤ l.length:=by
  rcases plA_cases l m hm with ⟨h1,h2,h3⟩ | ⟨_,h3⟩
  ·rw [h3];exact h.size _ (List.getElem_mem h2)
  ·rw [h3,← il_length,il_eS];simp
 have sB:(plB l m).size ≤ l.length:=by
  rcases plB_cases l m with ⟨h2,h3⟩ | ⟨_,h3⟩
  ·rw [h3];exact h.size _ (List.getElem_mem h2)
  ·rw [h3,← il_length,il_eS];simp
 obtain ⟨s,e1,e2,e3,e4,e5⟩:=between_ev (plA l m) (plB l m)
  (fun hn=>by obtain ⟨hh,e⟩:=hA hn;rw [e];exact h.place _ (List.getElem_mem hh.2))
  (fun hn=>by obtain ⟨hh,e⟩:=hB hn;rw [e];exact h.place _ (List.getElem_mem hh))
  (fun hn1 hn2=>by
   obtain ⟨hh1,e1⟩:=hA hn1
   obtain ⟨hh2,e2⟩:=hB hn2
   rw [e1,e2]
   exact (List.pairwise_iff_getElem.1 h.sorted) (m - 1) m hh1.2 hh2 (by omega)) (by omega) k hk
 have nA:0 < m → il (plA l m) ≠ []:=fun h0=>by
  rcases plA_cases l m hm with ⟨_,h2,h3⟩ | ⟨h1,_⟩
  ·rw [h3];exact (h.place _ (List.getElem_mem h2)).ne
  ·omega
 have nB:m < l.length → il (plB l m) ≠ []:=fun h0=>by
  rcases plB_cases l m with ⟨h2,h3⟩ | ⟨h1,_⟩
  ·rw [h3];exact (h.place _ (List.getElem_mem h2)).ne
  ·omega
 refine ⟨s,⟨hm,e1,place_ev s e2 (by omega) k (by omega),fun h0=>⟨fun e=>nA h0 (il_nil.1 e),by rw [lt_il];exact e4 (nA h0)⟩,fun h0=>⟨fun e=>nB h0 (il_nil.1 e),by rw [lt_il];exact e5 (nB h0)⟩,e3,by omega⟩,?_⟩
 have hlen:(l.take m ++ s :: l.drop m).length = l.length + 1:=by
  rw [List.length_append,List.length_cons,List.length_take,List.length_drop]
  omega
 refine ⟨fun t ht=>?_,fun t ht=>?_,?_⟩
 ·rcases List.mem_append.1 ht with ht | ht
  ·exact h.place t (List.mem_of_mem_take ht)
  ·rcases List.mem_cons.1 ht with rfl | ht
   ·exact e2
   ·exact h.place t (List.mem_of_mem_drop ht)
 ·rw [hlen]
  rcases List.mem_append.1 ht with ht | ht
  ·have:=h.size t (List.mem_of_mem_take ht)
   omega
  ·rcases List.mem_cons.1 ht with rfl | ht
   ·omega
   ·have:=h.size t (List.mem_of_mem_drop ht)
    omega
 ·have lo:∀ t ∈ l.take m,ltI (il t) (il s) = true:=fun t ht=>by
   obtain ⟨j,hj,rfl⟩:=List.getElem_of_mem ht
   rw [List.length_take] at hj
   rw [List.getElem_take]
   rcases plA_cases l m hm with ⟨h1,h2,h3⟩ | ⟨h1,_⟩
   ·have h4:=e4 (nA h1)
    rw [h3] at h4
    rcases Nat.lt_or_ge j (m - 1) with hj2 | hj2
    ·exact ltI_trans _ _ _ ((List.pairwise_iff_getElem.1 h.sorted) j (m - 1) (by omega) h2 hj2) h4
    ·have:j = m - 1:=by omega
     subst this
     exact h4
   ·omega
  have hi:∀ t ∈ l.drop m,ltI (il s) (il t) = true:=fun t ht=>by
   obtain ⟨j,hj,rfl⟩:=List.getElem_of_mem ht
   rw [List.length_drop] at hj
   rw [List.getElem_drop]
   rcases plB_cases l m with ⟨h2,h3⟩ | ⟨h1,_⟩
   ·have h4:=e5 (nB h2)
    rw [h3] at h4
    rcases Nat.eq_zero_or_pos j with rfl | hj2
    ·exact h4
    ·exact ltI_trans _ _ _ h4 ((List.pairwise_iff_getElem.1 h.sorted) m (m + j) h2 (by omega) (by omega))
   ·omega
  have hs:=h.sorted
  rw [← List.take_append_drop m l,List.pairwise_append] at hs
  rw [List.pairwise_append]
  refine ⟨hs.1,?_,fun t ht u hu=>?_⟩
  ·rw [List.pairwise_cons]
   exact ⟨hi,hs.2.1⟩
  ·rcases List.mem_cons.1 hu with rfl | hu
   ·exact lo t ht
   ·exact hs.2.2 t ht u hu
theorem ins_ev (raw:List Int) (k:Nat) (hk:500 ≤ k):∀ (n u:Nat) (l:List ByteArray),LOK l → l.length + n ≤ 60 → InsAt k raw n u l
 | 0,_,_,_,_=>trivial
 | n + 1,u,l,h,hl=>by
  obtain ⟨x,hx,h0,h1⟩:=roll_ev raw u (n:=(l.length:Int) + 1) (by omega) (by omega)
  obtain ⟨m,rfl⟩:∃ m:Nat,x = (m:Int):=⟨x.toNat,by omega⟩
  obtain ⟨s,h2,h3⟩:=insStep_ev h (by omega) (m:=m) (by omega) k hk
  exact ⟨m,s,hx,h2,ins_ev raw k hk n _ _ h3 (by rw [List.length_append,List.length_cons,List.length_take,List.length_drop];omega)⟩
theorem betw_walk (a0:Option Addr) (len0 cap0:Nat) (z0:List Int) (w:World)
 (w0:(a0 = none ∧ len0 = 0 ∧ cap0 = 0 ∧ z0 = []) ∨ ∃ x,a0 = some x ∧ len0 ≤ cap0 ∧ cap0 ≤ maxLen ∧ z0.length = cap0 ∧ (∀ i,i < z0.length → w.cell? (x.add i) = some (.int .i64 (z0.getD i 0))) ∧ ∀ n ∈ z0,(Lit.int .i64 n).wf = true) :
 Calls Try.prog 9 #[.slice a0 len0 cap0] w fun e w'=>e = .returned (.bool true) ∧ Below w.heap.size w w':=by
 obtain ⟨l0,rfl,hr0,hm0,hw0,hc0⟩:=ReadsInt.ofRowC w0
 obtain ⟨K1,f1⟩:=draws_ev
 have hd:=f1 (K1 + 500) (by omega)
 exact betw_calls (K1 + 500) _ _ l0 w (Kd.C_of_reads (d:=(0:Int)) (h1:=fun _=>rfl) hr0) hc0 hd (ins_ev l0 _ (by omega) _ 0 [] ⟨by simp,by simp,.nil⟩ (by simp only [List.length_nil];omega))
end Go.Proofs.Ytlcodfjlbhjkbaa.PDelta
end

/- Parts of the proof of Track: nothing is claimed here by itself. -/
import Derived.Test.YtlcodfjlbhjkbaaKTrack7
set_option linter.unusedVariables false
set_option linter.unusedSimpArgs false
section
namespace Go.Proofs.Ytlcodfjlbhjkbaa.PDelta
open Go.RowKit Go.Proofs.YtlcodfjlbhjkbaaW.PrintWords Go.Proofs.YtlcodfjlbhjkbaaW.PrintLast Go.Proofs.YtlcodfjlbhjkbaaW.PrintMore
abbrev nilB : ByteArray:=⟨#[]⟩
def fin (lost : ByteArray) (g : Bool) (c : List S91) : List S91:=if g = true then (if c.length = 1 then [⟨ADD,nilB⟩,⟨CUT,nilB⟩] else c ++ [⟨lost,nilB⟩]) else c
def chg (kept lost : ByteArray) (x : S26) : List S91:=fin lost (mk x lost) (if mk x kept = true then [⟨kept,nilB⟩] else [])
def stp (kept lost : ByteArray) (x : S26) (r : List S26) : S95:=if mk x lost = true ∧ r ≠ [] then ⟨2,1,[],[]⟩ else ⟨0,1,chg kept lost x,[]⟩
def stps (kept lost : ByteArray) : List S26 → List S95
 | [] => []
 | x :: r => stp kept lost x r :: stps kept lost r
section
variable {kept lost : ByteArray} {f : List S26} {r : List S95 × Int}
theorem settle_j4 {out : List S95} {g : Bool} {i : Nat} {c : List S91} (hc : c.length ≤ 1) (ho : out.length ≤ 1073741824)
 (h : Ev (fun k => track_settle.l0 k f 0 (f.length : Int) kept lost (out ++ [⟨0,1,fin lost g c,[]⟩]) f (f.length : Int) (wrap64 ((i : Int) + 1))) r) :
 Ev (fun k => track_settle.j4 k f 0 (f.length : Int) kept lost out g f (f.length : Int) (i : Int) 0 1 c) r:=by
 refine Ev.step (fun k => ?_) h
 simp only [track_settle.j4]
 cases g with
 | false =>
  rw [if_neg (by decide),if_neg (by omega),if_pos (by omega)]
  rfl
 | true =>
  rw [if_pos rfl,if_pos (by omega),Option.bind_some]
  by_cases h1 : c.length = 1
  ·rw [if_pos (by rw [List.length_append,List.length_singleton,h1];rfl),if_pos (by omega),fin,if_pos rfl,if_pos h1]
  ·rw [if_neg (by rw [List.length_append,List.length_singleton];omega),if_pos (by omega),fin,if_pos rfl,if_neg h1]
theorem settle_j3 {out : List S95} {g : Bool} {i : Nat} {x : S26} (hx : x.f2.length ≤ 1099511627776) (ho : out.length ≤ 1073741824)
 (h : Ev (fun k => track_settle.l0 k f 0 (f.length : Int) kept lost (out ++ [⟨0,1,fin lost g (if mk x kept = true then [⟨kept,nilB⟩] else []),[]⟩]) f (f.length : Int) (wrap64 ((i : Int) + 1))) r) :
 Ev (fun k => track_settle.j3 k f 0 (f.length : Int) kept lost out g f (f.length : Int) (i : Int) false x.f0 x.f1 x.f2 0 1) r:=by
 obtain ⟨b,e,hb⟩:=get_ev x.f2 kept hx
 refine Ev.step (fun k => by simp only [track_settle.j3];rw [if_neg (by decide)]) (Ev.bind e ?_)
 by_cases h1 : b.toList = []
 ·rw [mk_nil hb h1] at h
  refine Ev.congr (fun k => by rw [if_pos h1]) (settle_j4 (c:=[]) (by simp) ho h)
 ·rw [mk_cons hb h1] at h
  refine Ev.congr (fun k => by rw [if_neg h1,if_pos (by simp)];rfl) (settle_j4 (c:=[⟨kept,nilB⟩]) (by simp) ho h)
theorem settle_l0 (hs : FSmall f) (d : Nat) : ∀ (i : Nat) (out : List S95),i + d = f.length → out.length ≤ i → delta_Tidy.f (out ++ stps kept lost (f.drop i)) = some r →
 Ev (fun k => track_settle.l0 k f 0 (f.length : Int) kept lost out f (f.length : Int) (i : Int)) r:=by
 induction d with
 | zero =>
  intro i out hi ho ht
  rw [List.drop_eq_nil_of_le (by omega),stps,List.append_nil] at ht
  refine Ev.step (f:=fun _ => some r) (fun k => ?_) (Ev.now _)
  simp only [track_settle.l0]
  rw [if_neg (by omega),ht]
  rfl
 | succ d ih =>
  intro i out hi ho ht
  have hs1:=hs.1
  obtain ⟨x,hx⟩ : ∃ x,x = rd_T26 f (i : Int):=⟨_,rfl⟩
  have hdf : f.drop i = x :: f.drop (i + 1):=by rw [hx];exact drop_any z26 f i (by omega)
  have hxs:=hs.2 x (hx ▸ rdf_mem (by omega) (by omega))
  have hw : wrap64 ((i : Int) + 1) = ((i + 1 : Nat) : Int):=by rw [wrap_up (by omega) (by omega)];rfl
  have hwl : wrap64 ((f.length : Int) - 1) = (f.length : Int) - 1:=wrap_dn (by omega) (by omega)
  have hne : f.drop (i + 1) ≠ [] ↔ i + 1 < f.length:=by
   constructor
   ·intro h
    exact Nat.lt_of_not_le (fun e => h (List.drop_eq_nil_of_le e))
   ·intro h e
    have:=congrArg List.length e
    rw [List.length_drop,List.length_nil] at this
    omega
  rw [hdf,stps] at ht
  have hI:=ih (i + 1) (out ++ [stp kept lost x (f.drop (i + 1))]) (by omega) (by simp;omega) (by rw [List.append_assoc];exact ht)
  rw [← hw] at hI
  obtain ⟨b,e,hb⟩:=get_ev x.f2 lost (by omega)
  refine Ev.step (f:=fun k => track_settle.j2 k f 0 (f.length : Int) kept lost out (i : Int) f (f.length : Int) (i : Int) true x.f0 x.f1 x.f2 0 1) (fun k => ?_) (Ev.step (fun k => by simp only [track_settle.j2,if_true];rfl) (Ev.bind e ?_))
  ·simp only [track_settle.l0]
   rw [if_pos (by omega),if_pos (by omega),if_pos (by omega),if_pos (by omega),← hx,show decide ((i : Int) < (f.length : Int)) = true from decide_eq_true (by omega)]
  by_cases h1 : b.toList = []
  ·have hm:=mk_nil hb h1
   rw [stp,if_neg (fun h => by rw [hm] at h;cases h.1),chg,hm] at hI
   refine Ev.congr (fun k => by rw [if_pos h1,show (b.toList != ([] : List UInt8)) = false from bne_eq_false_iff_eq.mpr h1]) (settle_j3 (by omega) (by omega) hI)
  ·have hm:=mk_cons hb h1
   by_cases h2 : i + 1 < f.length
   ·rw [stp,if_pos ⟨hm,hne.2 h2⟩] at hI
    refine Ev.congr (fun k => by rw [if_neg h1,hwl,show decide ((i : Int) < (f.length : Int) - 1) = true from decide_eq_true (by omega)]) (Ev.step (fun k => ?_) hI)
    simp only [track_settle.j3,if_true]
    rw [if_pos (by omega)]
   ·rw [stp,if_neg (fun h => h2 (hne.1 h.2)),chg,hm] at hI
    refine Ev.congr (fun k => by rw [if_neg h1,hwl,show decide ((i : Int) < (f.length : Int) - 1) = false from decide_eq_false (by omega),show (b.toList != ([] : List UInt8)) = true from bne_iff_ne.mpr h1]) (settle_j3 (by omega) (by omega) hI)
theorem settle_ev (hs : FSmall f) (hp : POK f) (hla : LastOK f) (ht : delta_Tidy.f (stps kept lost f) = some r) : Ev (fun k => track_settle.f k f 0 (f.length : Int) kept lost) r:=by
 obtain ⟨e,he,hei⟩:=fcheck_ev f hs
 obtain rfl:=hei.2 ⟨hp,hla⟩
 have h:=settle_l0 hs f.length 0 [] (by omega) (Nat.le_refl _) (by rw [List.nil_append,List.drop_zero];exact ht)
 refine Ev.bind he (Ev.congr (fun k => by rw [if_pos rfl,if_neg (by omega),if_neg (by omega),show decide ((f.length : Int) > (f.length : Int)) = false from decide_eq_false (by omega)]) (Ev.step (fun k => ?_) h))
 simp only [track_settle.j0]
 rw [if_neg (by decide)]
 rfl
theorem settle_bad (hs : FSmall f) : ∃ e : Int,(e = 0 ↔ POK f ∧ LastOK f) ∧ (e ≠ 0 → ∀ kept lost,Ev (fun k => track_settle.f k f 0 (f.length : Int) kept lost) ([],e)):=by
 obtain ⟨e,he,hei⟩:=fcheck_ev f hs
 exact ⟨e,hei,fun hn kept lost => Ev.bind he (Ev.congr (fun k => by rw [if_neg hn]) (Ev.now _))⟩
end
def Marks (kept lost : ByteArray) : Prop:=(kept = ADD ∧ lost = CUT) ∨ (kept = CUT ∧ lost = ADD)
theorem name_add : NameOK ADD:=⟨by decide,by decide,fun i h0 h1 => by
 have h1' : i < 3:=h1
 have : i = 0 ∨ i = 1 ∨ i = 2:=by omega
 rcases this with rfl | rfl | rfl <;> exact .inl (by decide)⟩
theorem name_cut : NameOK CUT:=⟨by decide,by decide,fun i h0 h1 => by
 have h1' : i < 3:=h1
 have : i = 0 ∨ i = 1 ∨ i = 2:=by omega
 rcases this with rfl | rfl | rfl <;> exact .inl (by decide)⟩
theorem el_mark {n : ByteArray} (h : n = ADD ∨ n = CUT) : ElOK true ⟨n,nilB⟩:=by
 rcases h with rfl | rfl
 ·exact ⟨name_add,.inr ⟨rfl,rfl⟩⟩
 ·exact ⟨name_cut,.inr ⟨rfl,rfl⟩⟩
theorem va_mark {n : ByteArray} (h : n = ADD ∨ n = CUT) : VA true [⟨n,nilB⟩]:=⟨fun x hx => by rw [List.mem_singleton.1 hx];exact el_mark h,List.pairwise_singleton _ _⟩
theorem va_two : VA true [⟨ADD,nilB⟩,⟨CUT,nilB⟩]:=⟨fun x hx => by
 rcases List.mem_cons.1 hx with rfl | hx
 ·exact el_mark (.inl rfl)
 ·rw [List.mem_singleton.1 hx]
  exact el_mark (.inr rfl),List.pairwise_cons.2 ⟨fun y hy => by
 rw [List.mem_singleton.1 hy]
 show Op.bytesLess ADD.toList CUT.toList = true
 rw [add_list,cut_list]
 decide,List.pairwise_singleton _ _⟩⟩
theorem chg_va {kept lost : ByteArray} (h : Marks kept lost) (x : S26) : VA true (chg kept lost x) ∧ (chg kept lost x).length ≤ 2 ∧ (mk x lost = true → look (chg kept lost x) lost.toList = some []) ∧ (mk x lost = false → look (chg kept lost x) lost.toList = none) ∧ (mk x lost = false → mk x kept = false → chg kept lost x = []):=by
 have hk : kept = ADD ∨ kept = CUT:=by rcases h with h | h <;> simp [h.1]
 have hl : lost = ADD ∨ lost = CUT:=by rcases h with h | h <;> simp [h.2]
 have hn : kept.toList ≠ lost.toList:=by
  rcases h with ⟨rfl,rfl⟩ | ⟨rfl,rfl⟩ <;> (rw [add_list,cut_list];decide)
 have hno : look [(⟨kept,nilB⟩ : S91)] lost.toList = none:=by rw [look,if_neg hn];rfl
 unfold chg
 cases mk x lost <;> cases mk x kept
 ·exact ⟨va_nil true,by simp [fin],(fun e => by cases e),fun _ => rfl,fun _ _ => rfl⟩
 ·exact ⟨va_mark hk,by simp [fin],(fun e => by cases e),fun _ => hno,fun _ e => by cases e⟩
 ·exact ⟨va_mark hl,by simp [fin],fun _ => by show look [(⟨lost,nilB⟩ : S91)] lost.toList = some [];rw [look,if_pos rfl];exact congrArg some nil_list,(fun e => by cases e),(fun e => by cases e)⟩
 ·refine ⟨va_two,by simp [fin],fun _ => ?_,(fun e => by cases e),(fun e => by cases e)⟩
  show look [(⟨ADD,nilB⟩ : S91),⟨CUT,nilB⟩] lost.toList = some []
  rcases hl with rfl | rfl
  ·rw [look,if_pos rfl];exact congrArg some nil_list
  ·rw [look,if_neg (by show ADD.toList ≠ CUT.toList;rw [add_list,cut_list];decide),look,if_pos rfl];exact congrArg some nil_list
theorem stp_ok {kept lost : ByteArray} (h : Marks kept lost) (x : S26) (r : List S26) : StepOK (stp kept lost x r) ∧ SAt 2 (stp kept lost x r):=by
 obtain ⟨h1,h2,_⟩:=chg_va h x
 unfold stp
 split
 ·exact ⟨.inr (.inr ⟨rfl,by decide,by decide,rfl,rfl⟩),by simp,fun y hy => by cases hy⟩
 ·exact ⟨.inl ⟨rfl,Int.le_refl 1,(by show (1 : Int) ≤ 2147483647;decide),rfl,h1⟩,h2,fun y hy => by cases hy⟩
theorem stps_ok {kept lost : ByteArray} (h : Marks kept lost) : ∀ (f : List S26),∀ s ∈ stps kept lost f,StepOK s ∧ SAt 2 s
 | [],s,hs => by cases hs
 | x :: r,s,hs => by
  rcases List.mem_cons.1 hs with rfl | hs
  ·exact stp_ok h x r
  ·exact stps_ok h r s hs
theorem stp_us {kept lost : ByteArray} (x : S26) (r : List S26) : us (stp kept lost x r) = [if mk x lost = true ∧ r ≠ [] then .cut else .keep (chg kept lost x)]:=by
 unfold stp
 split <;> rfl
def prs (kept lost : ByteArray) : Nat → List S26 → List (S26 × Int)
 | _,[] => []
 | i,x :: r => (if mk x lost = true ∧ r ≠ [] then [] else [(app (chg kept lost x) x,(i : Int))]) ++ prs kept lost (i + 1) r
section
variable {kept lost : ByteArray}
theorem prs_snd : ∀ (f : List S26) (i : Nat),(prs kept lost i f).map Prod.snd = plc lost i f
 | [],_ => rfl
 | x :: r,i => by
  rw [prs,plc,List.map_append,prs_snd r (i + 1)]
  split <;> rfl
theorem prs_fst : ∀ (f : List S26) (i : Nat),(prs kept lost i f).map Prod.fst = (run f (units (stps kept lost f))).1
 | [],_ => rfl
 | x :: r,i => by
  rw [prs,stps,units_cons,stp_us,List.map_append,prs_fst r (i + 1)]
  split <;> rfl
theorem stps_nold : ∀ f : List S26,nold (units (stps kept lost f)) = f.length ∧ (units (stps kept lost f)).length = f.length
 | [] => ⟨rfl,rfl⟩
 | x :: r => by
  obtain ⟨h1,h2⟩:=stps_nold r
  rw [stps,units_cons,stp_us]
  split
  ·exact ⟨congrArg (· + 1) h1,congrArg (· + 1) h2⟩
  ·exact ⟨congrArg (· + 1) h1,congrArg (· + 1) h2⟩
theorem prs_len : ∀ (f : List S26) (i : Nat),(prs kept lost i f).length ≤ f.length
 | [],_ => Nat.le_refl _
 | x :: r,i => by
  have:=prs_len r (i + 1)
  rw [prs,List.length_append,List.length_cons]
  split <;> simp <;> omega
theorem prs_mem : ∀ (f : List S26) (i : Nat),∀ p ∈ prs kept lost i f,∃ q : Nat,p.2 = ((i + q : Nat) : Int) ∧ q < f.length ∧ p.1 = app (chg kept lost (f.getD q z26)) (f.getD q z26)
 | [],_,p,h => by cases h
 | x :: r,i,p,h => by
  rw [prs] at h
  rcases List.mem_append.1 h with h | h
  ·split at h
   ·cases h
   ·rw [List.mem_singleton.1 h]
    exact ⟨0,rfl,Nat.succ_pos _,rfl⟩
  ·obtain ⟨q,h1,h2,h3⟩:=prs_mem r (i + 1) p h
   exact ⟨q + 1,by rw [h1];congr 1;omega,Nat.succ_lt_succ h2,h3⟩
end
theorem has_all : ∀ g : List S26,(∀ y ∈ g,y.f2.length ≤ 1099511627776) → ∃ K,∀ k,K ≤ k → ∀ y ∈ g,chanceryref1_Has.f k y.f2 CUT = some (look y.f2 CUT.toList).isSome ∧ chanceryref1_Has.f k y.f2 ADD = some (look y.f2 ADD.toList).isSome
 | [],_ => ⟨0,fun _ _ y hy => by cases hy⟩
 | x :: g,h => by
  obtain ⟨K,hK⟩:=has_all g (fun y hy => h y (List.mem_cons_of_mem _ hy))
  obtain ⟨K1,h1⟩:=has_ev x.f2 CUT (h x List.mem_cons_self)
  obtain ⟨K2,h2⟩:=has_ev x.f2 ADD (h x List.mem_cons_self)
  refine ⟨K + K1 + K2,fun k hk y hy => ?_⟩
  rcases List.mem_cons.1 hy with rfl | hy
  ·exact ⟨h1 k (by omega),h2 k (by omega)⟩
  ·exact hK k (by omega) y hy
theorem mk_false {x : S26} {n : ByteArray} (h : VA false x.f2) (e : mk x n = false) : look x.f2 n.toList = none:=by
 cases hl : look x.f2 n.toList with
 | none => rfl
 | some u =>
  have hu:=(ov_look h _ u hl).ne
  rw [mk,hl] at e
  cases u with
  | nil => exact absurd rfl hu
  | cons a b => cases e
theorem gone_none {kept lost : ByteArray} (h : Marks kept lost) {x : S26} (hx : VA false x.f2) : look (app (chg kept lost x) x).f2 lost.toList = none:=by
 obtain ⟨h1,_,h3,h4,_⟩:=chg_va h x
 show look (mrg rawE x.f2 (chg kept lost x)) lost.toList = none
 rw [look_raw hx h1]
 cases hm : mk x lost with
 | true => rw [h3 hm];rfl
 | false => rw [h4 hm,mk_false hx hm];rfl
theorem app_none {kept lost : ByteArray} (h : Marks kept lost) {x : S26} (hx : VA false x.f2) (h1 : mk x lost = false) (h2 : mk x kept = false) : app (chg kept lost x) x = x:=by
 rw [(chg_va h x).2.2.2.2 h1 h2]
 have : mrg rawE x.f2 [] = x.f2:=look_ext (va_raw hx (va_nil true)).2 hx.2 (fun n => by rw [look_raw hx (va_nil true)];rfl)
 rw [app,this]
theorem prs_none {kept lost : ByteArray} (h : Marks kept lost) : ∀ (f : List S26) (i : Nat),(∀ x ∈ f,VA false x.f2 ∧ mk x lost = false ∧ mk x kept = false) → (prs kept lost i f).map Prod.fst = f
 | [],_,_ => rfl
 | x :: r,i,hx => by
  have h0:=hx x List.mem_cons_self
  rw [prs,List.map_append,prs_none h r (i + 1) (fun y hy => hx y (List.mem_cons_of_mem _ hy)),if_neg (fun e => by rw [h0.2.1] at e;cases e.1)]
  show app (chg kept lost x) x :: r = x :: r
  rw [app_none h h0.1 h0.2.1 h0.2.2]
theorem shows_true {f : List S26} {m : Int} {kept lost : ByteArray} (hk : (m = 0 ∧ kept = ADD ∧ lost = CUT) ∨ (m = 1 ∧ kept = CUT ∧ lost = ADD)) (hs : FSmall f) (hl : f.length ≤ 1048576) (hp : POK f) (hla : LastOK f) (hh : ∀ x ∈ f,look x.f2 HID.toList = none)
 {o : List S95} (fo : FO 2 o) (eo : E (units o) (units (stps kept lost f))) : ShowsT f o m:=by
 have hM : Marks kept lost:=by rcases hk with h | h;exact .inl h.2;exact .inr h.2
 have hH : Hides m lost:=by rcases hk with h | h;exact .inl ⟨h.1,h.2.2⟩;exact .inr ⟨h.1,h.2.2⟩
 have hva : ∀ x ∈ f,VA false x.f2:=fun x hx => (pok_mem.1 hp x hx).2
 obtain ⟨n1,n2⟩:=stps_nold (kept:=kept) (lost:=lost) f
 have hg : (run f (units o)).1 = (prs kept lost 0 f).map Prod.fst:=by rw [eo.run,prs_fst]
 have hgl : (run f (units o)).1.length = (prs kept lost 0 f).length:=by rw [hg,List.length_map]
 have hpl:=prs_len (kept:=kept) (lost:=lost) f 0
 have ha:=after_run (f:=f) (d:=o) (fun x hx => ⟨hva x hx,(hs.2 x hx).2⟩) (by omega) fo.ok (fun s hs' => by have:=(fo.att s hs').1;omega) (by rw [eo.old,n1]) (by rw [eo.len,n2];omega) (by rw [hgl];omega)
 obtain ⟨K1,h1⟩:=shown_ev hH hs hp hla hh
 obtain ⟨c,⟨K2,h2⟩,hc⟩:=changes_ev hs hp
 have hel : ∀ y ∈ (prs kept lost 0 f).map Prod.fst,∃ q : Nat,q < f.length ∧ y = app (chg kept lost (f.getD q z26)) (f.getD q z26):=fun y hy => by
  obtain ⟨p,hp',rfl⟩:=List.mem_map.1 hy
  obtain ⟨q,_,h2,h3⟩:=prs_mem f 0 p hp'
  exact ⟨q,h2,h3⟩
 have hget : ∀ q : Nat,q < f.length → f.getD q z26 ∈ f:=fun q hq => by
  rw [List.getD_eq_getElem?_getD,List.getElem?_eq_getElem hq,Option.getD_some]
  exact List.getElem_mem hq
 obtain ⟨K3,h3⟩:=has_all ((prs kept lost 0 f).map Prod.fst) (fun y hy => by
  obtain ⟨q,hq,rfl⟩:=hel y hy
  have h5:=mrg_len rawE (f.getD q z26).f2 (chg kept lost (f.getD q z26))
  have h6:=(hs.2 _ (hget q hq)).2
  have h7:=(chg_va hM (f.getD q z26)).2.1
  show (mrg rawE (f.getD q z26).f2 (chg kept lost (f.getD q z26))).length ≤ _
  omega)
 obtain ⟨K4,h4⟩:=same_flow_ev f hs
 refine ⟨K1 + K2 + K3 + K4,(run f (units o)).1,plc lost 0 f,c,ha,h1 _ (by omega),?_,by rw [hgl];omega,fun i hi => ?_,h2 _ (by omega),?_⟩
 ·rw [hgl,← prs_snd (kept:=kept),List.length_map]
 ·rw [hgl] at hi
  obtain ⟨q,e1,e2,e3⟩:=prs_mem f 0 (prs kept lost 0 f)[i] (List.getElem_mem hi)
  have r1 : rd (plc lost 0 f) (i : Int) = (q : Int):=by
   rw [← prs_snd (kept:=kept),← Nat.zero_add q,← e1]
   simp [rd,List.getD_eq_getElem?_getD,List.getElem?_eq_getElem hi]
  have r2 : rd_T26 (run f (units o)).1 (i : Int) = app (chg kept lost (f.getD q z26)) (f.getD q z26):=by
   rw [hg,← e3]
   simp [rd_T26,List.getD_eq_getElem?_getD,List.getElem?_eq_getElem hi]
  have hx:=hget q e2
  have hym : rd_T26 (run f (units o)).1 (i : Int) ∈ (prs kept lost 0 f).map Prod.fst:=by
   rw [← hg]
   exact rdf_mem (by omega) (by rw [hgl];omega)
  obtain ⟨u1,u2⟩:=h3 (K1 + K2 + K3 + K4) (by omega) _ hym
  have hgn:=gone_none hM (hva _ hx)
  rw [r2] at u1 u2 ⊢
  refine ⟨q,r1,e2,rfl,rfl,_,_,u1,u2,?_,?_⟩
  ·rcases hk with ⟨rfl,rfl,rfl⟩ | ⟨rfl,rfl,rfl⟩
   ·intro e
    rw [hgn] at e
    cases e
   ·intro _
    decide
  ·rcases hk with ⟨rfl,rfl,rfl⟩ | ⟨rfl,rfl,rfl⟩
   ·intro _
    decide
   ·intro e
    rw [hgn] at e
    cases e
 ·by_cases hcl : 0 < c.length
  ·exact .inl hcl
  ·refine .inr ⟨by omega,?_⟩
   have hcn:=hc (List.length_eq_zero_iff.1 (by omega))
   have e : (run f (units o)).1 = f:=by
    rw [hg]
    refine prs_none hM f 0 (fun x hx => ⟨hva x hx,?_⟩)
    have:=hcn x hx
    rcases hk with ⟨_,rfl,rfl⟩ | ⟨_,rfl,rfl⟩
    ·exact ⟨this.2,this.1⟩
    ·exact ⟨this.1,this.2⟩
   rw [e]
   exact h4 _ (by omega)
def FFine (f : List S26) : Prop:=f.length ≤ 1048576 ∧ ∀ x ∈ f,Small x.f2 ∧ x.f2.length ≤ 1048576
theorem FFine.small {f : List S26} (h : FFine f) : FSmall f:=⟨by have:=h.1;omega,fun x hx => ⟨(h.2 x hx).1,by have:=(h.2 x hx).2;omega⟩⟩
abbrev XB : ByteArray:=⟨#[120]⟩
def F3 : List S26:=[⟨97,0,[]⟩,⟨98,0,[⟨CUT,XB⟩]⟩,⟨10,0,[]⟩]
theorem val_x : ValOK XB:=⟨by decide,by decide,fun i h0 h1 => by
 have h1' : i < 1:=h1
 obtain rfl : i = 0:=by omega
 decide⟩
theorem va_x : VA false [(⟨CUT,XB⟩ : S91)]:=⟨fun y hy => by rw [List.mem_singleton.1 hy];exact ⟨name_cut,.inl val_x⟩,List.pairwise_singleton _ _⟩
theorem f3_cases {P : S26 → Prop} (h1 : P ⟨97,0,[]⟩) (h2 : P ⟨98,0,[⟨CUT,XB⟩]⟩) (h3 : P ⟨10,0,[]⟩) : ∀ x ∈ F3,P x:=fun x hx => by
 rcases List.mem_cons.1 hx with rfl | hx
 ·exact h1
 ·rcases List.mem_cons.1 hx with rfl | hx
  ·exact h2
  ·rw [List.mem_singleton.1 hx]
   exact h3
theorem f3_small : FSmall F3:=⟨by decide,f3_cases ⟨⟨by decide,fun x hx => by cases hx⟩,by decide⟩ ⟨⟨by decide,fun x hx => by rw [List.mem_singleton.1 hx];exact ⟨by decide,by decide⟩⟩,by decide⟩ ⟨⟨by decide,fun x hx => by cases hx⟩,by decide⟩⟩
theorem f3_pok : POK F3:=pok_mem.2 (f3_cases ⟨.inr ⟨rfl,.inr (.inr (.inl ⟨by decide,by decide⟩))⟩,va_nil false⟩ ⟨.inr ⟨rfl,.inr (.inr (.inl ⟨by decide,by decide⟩))⟩,va_x⟩ ⟨.inr ⟨rfl,.inr (.inl rfl)⟩,va_nil false⟩)
theorem f3_hid : ∀ x ∈ F3,look x.f2 HID.toList = none:=f3_cases rfl (by
 show look [(⟨CUT,XB⟩ : S91)] HID.toList = none
 rw [look,if_neg (by show CUT.toList ≠ HID.toList;rw [cut_list,ByteArray.toList_eq];decide)]
 rfl) rfl
theorem f3_plc : plc CUT 0 F3 = [0,2]:=by
 have h1 : mk ⟨97,0,[]⟩ CUT = false:=rfl
 have h2 : mk ⟨98,0,[⟨CUT,XB⟩]⟩ CUT = true:=by
  show (!((look [(⟨CUT,XB⟩ : S91)] CUT.toList).getD []).isEmpty) = true
  rw [look,if_pos rfl,Option.getD_some,show (⟨CUT,XB⟩ : S91).f1.toList = [120] by show XB.toList = [120];rw [ByteArray.toList_eq]]
  rfl
 have h3 : mk ⟨10,0,[]⟩ CUT = false:=rfl
 rw [F3,plc,plc,plc,plc,h1,h2,h3]
 rfl
theorem tracks_ev : Ev (fun k => chancerykeep1_tracks.f k) true:=by
 have h:=shown_ev (m:=0) (n:=CUT) (.inl ⟨rfl,rfl⟩) f3_small f3_pok ⟨by decide,rfl⟩ f3_hid
 rw [f3_plc] at h
 have h2 : Ev (fun k => chanceryref1_SameInts.f k [0,2] [0,2]) true:=Ev.of (fun k => chanceryref1_SameInts.mono _ _ k) (k:=5) (by simp [chanceryref1_SameInts.f,chanceryref1_SameInts.l0,rd,wrap64])
 exact Ev.bind h (Ev.congr (fun k => by rw [if_pos rfl]) (Ev.bind h2 (Ev.now true)))
section
variable {f : List S26}
theorem accept_is (k : Nat) : track_Accept.f k f 0 (f.length : Int) = track_settle.f k f 0 (f.length : Int) ADD CUT:=by
 unfold track_Accept.f
 cases track_settle.f k f 0 (f.length : Int) ADD CUT <;> rfl
theorem reject_is (k : Nat) : track_Reject.f k f 0 (f.length : Int) = track_settle.f k f 0 (f.length : Int) CUT ADD:=by
 unfold track_Reject.f
 cases track_settle.f k f 0 (f.length : Int) CUT ADD <;> rfl
theorem tidy_stps {kept lost : ByteArray} (h : Marks kept lost) (hf : FFine f) : ∃ o,delta_Tidy.f (stps kept lost f) = some (o,0) ∧ FO 2 o ∧ E (units o) (units (stps kept lost f)):=by
 obtain ⟨n1,n2⟩:=stps_nold (kept:=kept) (lost:=lost) f
 have hok:=stps_ok h f
 have hl1:=hf.1
 have hl:=units_len (d:=stps kept lost f) (fun s hs => (hok s hs).1)
 obtain ⟨o,ho,fo,eo⟩:=tidy_gen (A:=2) (by decide) (stps kept lost f) ⟨[],[],0⟩ (WF.nil _) hok (by rw [n2];show 0 + f.length ≤ _;omega)
 refine ⟨o,ever_of (Ev.congr (fun k => ?_) ho),fo,eo⟩
 unfold tidyF
 rw [if_neg (by omega)]
theorem shows_f {o : List S95} {m : Int} (h : ShowsT f o m) : chancerykeep1_shows.f f o m = some true:=by
 unfold chancerykeep1_shows.f
 rw [if_pos h]
theorem end_ev (hf : FFine f) (hh : ∀ x ∈ f,look x.f2 HID.toList = none) :
 Ev (fun k => (track_Accept.f k f 0 (f.length : Int)).bind fun bt416 => (track_Reject.f k f 0 (f.length : Int)).bind fun bt420 => (chanceryref1_FlowError.f k f true).bind fun t424 => if t424 = 0 then (if bt416.2 = 0 then chancerykeep1_TrackAcceptShows.j2 k f bt416.1 bt420.1 (bt420.2 != 0) else chancerykeep1_TrackAcceptShows.j2 k f bt416.1 bt420.1 true) else (if bt416.2 = 0 then some false else some (bt420.2 == bt416.2))) true:=by
 obtain ⟨t,ht,hti⟩:=ferr_ev f hf.small
 by_cases hg : POK f ∧ LastOK f
 ·obtain rfl:=hti.2 hg
  obtain ⟨o1,t1,fo1,eo1⟩:=tidy_stps (kept:=ADD) (lost:=CUT) (.inl ⟨rfl,rfl⟩) hf
  obtain ⟨o2,t2,fo2,eo2⟩:=tidy_stps (kept:=CUT) (lost:=ADD) (.inr ⟨rfl,rfl⟩) hf
  have s1:=settle_ev hf.small hg.1 hg.2 t1
  have s2:=settle_ev hf.small hg.1 hg.2 t2
  have w1:=shows_f (shows_true (m:=0) (.inl ⟨rfl,rfl,rfl⟩) hf.small hf.1 hg.1 hg.2 hh fo1 eo1)
  have w2:=shows_f (shows_true (m:=1) (.inr ⟨rfl,rfl,rfl⟩) hf.small hf.1 hg.1 hg.2 hh fo2 eo2)
  refine Ev.bind (Ev.congr accept_is s1) (Ev.bind (Ev.congr reject_is s2) (Ev.bind ht (Ev.congr (fun k => by rw [if_pos rfl,if_pos rfl];rfl) (Ev.step (g:=fun k => chancerykeep1_TrackAcceptShows.j2 k f o1 o2 false) (f:=fun _ => some true) (fun k => ?_) (Ev.now true)))))
  simp only [chancerykeep1_TrackAcceptShows.j2]
  rw [if_neg (by decide),w1,Option.bind_some,if_pos rfl,w2]
  rfl
 ·obtain ⟨e,hei,hs⟩:=settle_bad (f:=f) hf.small
  have hne : e ≠ 0:=fun h => hg (hei.1 h)
  have htn : t ≠ 0:=fun h => hg (hti.1 h)
  refine Ev.bind (Ev.congr accept_is (hs hne ADD CUT)) (Ev.bind (Ev.congr reject_is (hs hne CUT ADD)) (Ev.bind ht (Ev.congr (f:=fun _ => some true) (fun k => ?_) (Ev.now true))))
  rw [if_neg htn,if_neg hne]
  simp
theorem law_l0 (hf : FFine f) (d : Nat) : ∀ i : Nat,i + d = f.length → (∀ x ∈ f.take i,look x.f2 HID.toList = none) → Ev (fun k => chancerykeep1_TrackAcceptShows.l0 k f f (f.length : Int) (i : Int)) true:=by
 have hf1:=hf.1
 induction d with
 | zero =>
  intro i hi hh
  rw [List.take_of_length_le (by omega)] at hh
  refine Ev.step (fun k => ?_) (end_ev hf hh)
  simp only [chancerykeep1_TrackAcceptShows.l0]
  rw [if_neg (by omega)]
 | succ d ih =>
  intro i hi hh
  obtain ⟨x,hx⟩ : ∃ x,x = rd_T26 f (i : Int):=⟨_,rfl⟩
  have hxs:=hf.2 x (hx ▸ rdf_mem (by omega) (by omega))
  have hw : wrap64 ((i : Int) + 1) = ((i + 1 : Nat) : Int):=by rw [wrap_up (by omega) (by omega)];rfl
  have e0 : ∀ k,chancerykeep1_TrackAcceptShows.l0 (k + 1) f f (f.length : Int) (i : Int) = (chanceryref1_Has.f k x.f2 HID).bind fun t415 => if t415 = true then some true else chancerykeep1_TrackAcceptShows.l0 k f f (f.length : Int) ((i + 1 : Nat) : Int):=fun k => by
   simp only [chancerykeep1_TrackAcceptShows.l0]
   rw [if_pos (by omega),if_pos (by omega),if_pos (by omega),← hx,hw]
  have hH:=has_ev x.f2 HID (by omega)
  cases hl : (look x.f2 HID.toList).isSome with
  | true =>
   rw [hl] at hH
   exact Ev.step e0 (Ev.bind hH (Ev.congr (fun k => by rw [if_pos rfl]) (Ev.now true)))
  | false =>
   rw [hl] at hH
   refine Ev.step e0 (Ev.bind hH (Ev.congr (fun k => by rw [if_neg (by decide)]) (ih (i + 1) (by omega) (fun y hy => ?_))))
   rw [List.take_add_one,List.getElem?_eq_getElem (by omega)] at hy
   rcases List.mem_append.1 hy with hy | hy
   ·exact hh y hy
   ·have e : y = x:=by
     rw [hx]
     simp only [Option.toList_some,List.mem_singleton] at hy
     rw [hy]
     simp [rd_T26,List.getD_eq_getElem?_getD,List.getElem?_eq_getElem (show i < f.length by omega)]
    rw [e]
    exact Option.isSome_eq_false_iff.1 hl |> Option.isNone_iff_eq_none.1
theorem accept_law (hf : FFine f) : ∃ k,chancerykeep1_TrackAcceptShows.f k f = some true:=by
 have h : Ev (fun k => chancerykeep1_TrackAcceptShows.f k f) true:=by
  refine Ev.bind tracks_ev (Ev.congr (g:=fun k => _) (f:=fun k => chancerykeep1_TrackAcceptShows.j0 k f false) (fun k => by rw [if_pos rfl];rfl) (Ev.step (fun k => ?_) (law_l0 hf f.length 0 (by omega) (fun x hx => by rw [List.take_zero] at hx;cases hx))))
  simp only [chancerykeep1_TrackAcceptShows.j0]
  rw [if_neg (by decide)]
  rfl
 exact h.rounds
end
end Go.Proofs.Ytlcodfjlbhjkbaa.PDelta
end

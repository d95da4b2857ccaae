/- What has no room is refused; StoreFull. -/
import Derived.Test.YtdbheiibkpendaaGreatDoorMStA
import Derived.Test.YtdbheiibkpendaaGreatDoorMCrA
import Derived.Test.YtdbheiibkpendaaGreatDoorMGwL0
namespace Go.St
open Go Go.Gw Go.Dk Go.Fr Go.Proofs.Se.D
set_option linter.unusedSimpArgs false
set_option linter.unusedVariables false
end Go.St
/- Over and over: what was synced is told; StoreGoes. -/
namespace Go.St
open Go Go.Gw Go.Dk Go.Fr Go.Proofs.Se.D
set_option linter.unusedSimpArgs false
set_option linter.unusedVariables false
theorem Jjd (f:Fl):Fl.lose (Fl.lose f)=Fl.lose f:=by simp[Fl.lose]
theorem Ji2 {f:Fl} (h:f.ps=[]):Fl.lose f=f:=by
 obtain⟨s,ps⟩:=f
 simp only at h;subst h
 simp[Fl.lose]
theorem JfU:∀(ns:List Int) (k:Nat) (fs:List (Int×Fl)),Wq [] (-1) 0 ns k fs=fs.map fun p=>if p.1∈ns then(p.1,Fl.lose p.2) else p:=by
 intro ns
 induction ns with
 |nil=>intro k fs;simp[Wq]
 | cons n ns ih=>
  intro k fs
  rw[Wq,ih,List.map_map]
  refine List.map_congr_left fun p _=> ?_
  simp only[Function.comp]
  by_cases h:p.1=n
  ·rw[if_pos h,JcX]
   by_cases h2:n∈ns
   ·simp[h,h2,Jjd]
   ·simp[h,h2]
  ·rw[if_neg h]
   simp[h]
theorem Jkz (g:Fl→Fl) (Z:List Fl):∀n,(Vo n Z).map (fun p=>(p.1,g p.2))=Vo n (Z.map g):=by
 induction Z with
 |nil=>intro n;rfl
 |cons f r ih=>intro n;simp only[Vo,List.map_cons,ih]
theorem JhZ (Z:List Fl):Wq [] (-1) 0 (Wd (Xb Z)) 0 (Xb Z)=Xb (Z.map Fl.lose):=by
 rw[JfU]
 refine Eq.trans ?_ (Jkz Fl.lose Z 0)
 refine List.map_congr_left fun p hp=> ?_
 rw[if_pos ((Qw _ _).2 (List.mem_map.2 ⟨p,hp,rfl⟩))]
structure GI (l:List R) (at' c:Nat) (H:AH) (d:MV) (life:Int) (ends dirty:List Int) (Z:List Fl) (f:Fl):Prop where
 h:Jv c H d (On 131072 (Xb (Z++[f])) life)
 hh:JgD (l.take at') Z f
 al:at'≤l.length
 el:ends.length=2*at'
 dl:dirty.length≤c
 d0:∀x∈dirty,0≤x∧x<((Z++[f]).length:Int)
 d1:∀(i:Nat) (g:Fl),(Z++[f])[i]?=some g→g.ps≠[]→(i:Int)∈dirty
theorem GI.append {l:List R} {at' c:Nat} {H:AH} {d:MV} {life:Int} {ends dirty:List Int} {Z:List Fl} {f:Fl} (g:GI l at' c H d life ends dirty Z f) (ho:Ok l) (hn:l.length≤60) (hc:c≤1000) (hi:at'<l.length):
  ∃H' x Z' f',Jm H d ends ((Z.length:Nat):Int) dirty l[at'].1 l[at'].2=some (0,ends++x,((Z'.length:Nat):Int),ins dirty ((Z'.length:Nat):Int),H')∧
   GI l (at'+1) (c+1) H' d life (ends++x) (ins dirty ((Z'.length:Nat):Int)) Z' f'∧Put (frm l[at'].1 l[at'].2) Z f Z' f':=by
 have hr:=ho _ (List.getElem_mem hi)
 obtain⟨H',x,Z',f',e,lx,h',hp,hh',_⟩:=JfW g.h (by omega) g.hh (fun r hr=>ho r (List.mem_of_mem_take hr)) (by rw[List.length_take];omega) hr.1 hr.2.2 hr.2.1 (ends:=ends) (dirty:=dirty) (by have:=g.el;omega) (by have:=g.dl;omega)
 rw[←Jjw hi] at hh'
 have hmem:∀x,x∈ins dirty ((Z'.length:Nat):Int)↔x∈dirty∨x=((Z'.length:Nat):Int):=by
  intro x;unfold ins
  split
  ·rename_i hm
   exact⟨fun h=> .inl h,fun h=>h.elim id fun e=>by rw[e];exact hm⟩
  ·simp
 refine⟨H',x,Z',f',e,⟨h',hh',hi,by simp[g.el,lx];omega,by have:=Jf0 dirty ((Z'.length:Nat):Int);have:=g.dl;omega,fun y hy=> ?_,fun i q hq hne=> ?_⟩,hp⟩
 ·have hlen:(Z++[f]).length≤(Z'++[f']).length:=by cases hp<;>simp
  rcases(hmem y).1 hy with hy|hy
  ·have:=g.d0 y hy;omega
  ·subst hy;simp only[List.length_append,List.length_singleton];omega
 ·refine(hmem _).2 ?_
  cases hp with
  | here hf=>
   by_cases hiz:i<Z.length
   ·left
    refine g.d1 i q ?_ hne
    rw[List.getElem?_append_left hiz] at hq ⊢;exact hq
   ·right
    have:i<(Z++[(⟨f.s,f.ps++[frm l[at'].1 l[at'].2]⟩:Fl)]).length:=(List.getElem?_eq_some_iff.1 hq).1
    simp at this;omega
  | next hf=>
   by_cases hiz:i<(Z++[f]).length
   ·left
    refine g.d1 i q ?_ hne
    rw[List.getElem?_append_left hiz] at hq;exact hq
   ·right
    have:i<(Z++[f]++[(⟨[],[frm l[at'].1 l[at'].2]⟩:Fl)]).length:=(List.getElem?_eq_some_iff.1 hq).1
    simp at this hiz ⊢;omega
theorem Jfw {rs:List R} {Z:List Fl} {f:Fl} (h:JgD rs Z f):JgD rs (Z.map Fl.settle) f.settle:=by
 obtain⟨P,p,e1,e2,e3,e4,e5⟩:=h
 refine⟨P,p,e1,?_,by rw[YP,e3],fun g hg=> ?_,fun g hg=> ?_⟩
 ·rw[List.map_map,←e2];exact List.map_congr_left fun g _=>YP g
 ·obtain⟨g',hg',rfl⟩:=List.mem_map.1 hg
  rw[YP];exact e4 g' hg'
 ·rcases List.mem_append.1 hg with hg|hg
  ·obtain⟨g',hg',rfl⟩:=List.mem_map.1 hg
   rw[YP];exact e5 g' (List.mem_append_left _ hg')
  ·rw[List.mem_singleton.1 hg,YP];exact e5 f (by simp)
theorem GI.sync {l:List R} {at' c:Nat} {H:AH} {d:MV} {life:Int} {ends dirty:List Int} {Z:List Fl} {f:Fl} (g:GI l at' c H d life ends dirty Z f) (n:Nat):
  ∃H' Z' f',JA H d n ((Z.length:Nat):Int) dirty=some (0,((Z'.length:Nat):Int),[],H')∧GI l at' c H' d life ends [] Z' f'∧∀q∈Z'++[f'],q.ps=[]:=by
 obtain⟨H',e,h'⟩:=Jdz g.h n ((Z.length:Nat):Int) g.d0 g.d1
 have hs:∀q∈Z.map Fl.settle++[f.settle],q.ps=[]:=fun q hq=>by
  rcases List.mem_append.1 hq with hq|hq
  ·obtain⟨q',_,rfl⟩:=List.mem_map.1 hq;rfl
  ·rw[List.mem_singleton.1 hq];rfl
 refine⟨H',Z.map Fl.settle,f.settle,by rw[List.length_map];exact e,⟨by simpa using h',Jfw g.hh,g.al,g.el,by simp,(fun x hx=>by cases hx),fun i q hq hne=>absurd (hs q (List.mem_of_getElem? hq)) hne⟩,hs⟩
theorem GI.open {l:List R} {at' c:Nat} {H:AH} {d:MV} {life:Int} {ends:List Int} {Z:List Fl} {f:Fl} (g:GI l at' c H d life ends [] Z f) (ho:Ok l) (hn:l.length≤60) {Z':List Fl} {f':Fl} {c':Nat} {H':AH} (h':Jv c' H' d (On 131072 (Xb (Z'++[f'])) life))
  {f0:Fl} {C:List Int} (hh:JgD (l.take at') Z' f0) (hmap:(Z'++[f']).map Fl.lose=Z'++[Fl.lose f']) (hall:(Fl.lose f').all=f0.all++C) (hB:Byt C) (hC:C.length≤5000) (hst:∀p,Stop p C):
  ∃H1 H2 H3 life' e Z'' f'',JX H' d [] (-1) 0=some H1∧Ve H1 d=some H2∧VC H2 d=some (d,e,((Z''.length:Nat):Int),[],l.take at',0,H3)∧GI l at' c' H3 d life' e [] Z'' f''∧(∀q∈Z''++[f''],q.ps=[]):=by
 obtain⟨H1,H2,life',e1,e2,h2⟩:=Jck h' [] (-1) 0
 rw[JhZ,hmap] at h2
 have hok:Ok (l.take at'):=fun r hr=>ho r (List.mem_of_mem_take hr)
 have hlen:(l.take at').length=at':=by rw[List.length_take];have:=g.al;omega
 obtain⟨H3,e,Z'',f'',r,h3,hh3,lz,le,hs⟩:=JeR h2 hh hok (by rw[hlen];have:=g.al;omega) (Fl.lose f') hall hB hC hst (JfV _ _ (by simp)) (fun _=>JaL _ _ (by simp))
 refine⟨H1,H2,H3,life',e,Z'',f'',e1,e2,by rw[lz];exact r,⟨h3,hh3,g.al,by rw[le,hlen],by simp,(fun x hx=>by cases hx),fun i q hq hne=>absurd (hs q (List.mem_of_getElem? hq)) hne⟩,hs⟩
end Go.St
/- A crash of a store's files, whatever is kept: what is read of them is a beginning. -/
namespace Go.St
open Go Go.Gw Go.Dk Go.Fr Go.Proofs.Se.D
set_option linter.unusedSimpArgs false
set_option linter.unusedVariables false
theorem Jh7 {b:List Int} {i:Nat} (hi:i≤b.length) (h:(Gn b i).2.2.2=0):∃c,b.drop i=frm (Gn b i).1 (Gn b i).2.1++c∧Kin (Gn b i).1∧(Gn b i).2.1.length≤2000∧(Gn b i).2.1.length=(b.getD (i+1) 0).toNat*256+(b.getD (i+2) 0).toNat:=by
 unfold Gn at h ⊢
 split at h
 ·exact absurd h (by decide)
 rename_i h7
 split at h
 case isFalse=>exact absurd h (by decide)
 rename_i hk
 split at h
 ·exact absurd h (by decide)
 rename_i hn
 split at h
 case isFalse=>exact absurd h (by decide)
 rename_i he
 rw[if_neg h7,if_pos hk,if_neg hn,if_pos he]
 simp only
 generalize (b.getD (i+1) 0).toNat*256+(b.getD (i+2) 0).toNat=n at*
 refine⟨b.drop (i+7+n),?_,hk,?_,?_⟩
 ·rw[he]
  have e:b.drop i=(b.take (i+7+n)++b.drop (i+7+n)).drop i:=by rw[List.take_append_drop]
  rw[e,List.drop_append_of_le_length (by rw[List.length_take];omega)]
 ·rw[List.length_drop,List.length_take];omega
 ·rw[List.length_drop,List.length_take];omega
theorem Jes {a l:List Int} {j:Nat} (h:j<a.length):(a++l).getD j 0=a.getD j 0:=by
 rw[List.getD_eq_getElem?_getD,List.getElem?_append_left h,←List.getD_eq_getElem?_getD]
def tn (at_:Int) (r:R):List Int:=(frm r.1 r.2).take at_.toNat++List.replicate ((frm r.1 r.2).length-at_.toNat) 0
def Unl (at_:Int) (r:R):Prop:=(Gn (tn at_ r) 0).2.2.2=0→((Gn (tn at_ r) 0).1,(Gn (tn at_ r) 0).2.1)=r
theorem Jed (at_:Int) (r:R):(tn at_ r).length=(frm r.1 r.2).length:=by
 unfold tn;rw[List.length_append,List.length_take,List.length_replicate];omega
theorem Jlm (at_:Int) (r:R) (j:Nat):(tn at_ r).getD j 0=(frm r.1 r.2).getD j 0∨(tn at_ r).getD j 0=0:=by
 unfold tn
 by_cases h:j<((frm r.1 r.2).take at_.toNat).length
 ·left
  rw[List.getD_eq_getElem?_getD,List.getElem?_append_left h,List.getElem?_take_of_lt (by rw[List.length_take] at h;omega),←List.getD_eq_getElem?_getD]
 ·right
  rw[List.getD_eq_getElem?_getD,List.getElem?_append_right (by omega),List.getElem?_replicate]
  split<;>rfl
theorem Jk7 (at_:Int) {r:R} (h:Byt r.2):Byt (tn at_ r):=((Jjl _ h).take _).app (Byt.rep _)
theorem Joa (at_:Int) {r:R} (hl:r.2.length≤2000):((tn at_ r).getD 1 0).toNat*256+((tn at_ r).getD 2 0).toNat≤r.2.length:=by
 have b1:(frm r.1 r.2).getD 1 0=IntKind.u8.wrap (shr .i64 r.2.length 8):=rfl
 have b2:(frm r.1 r.2).getD 2 0=IntKind.u8.wrap r.2.length:=rfl
 have e:=Jek r.2.length hl
 rw[←b1,←b2] at e
 rcases Jlm at_ r 1 with h1|h1<;>rcases Jlm at_ r 2 with h2|h2<;>rw[h1,h2]<;>omega
theorem Jmr {A rest:List Int} {at_:Int} {r:R} (hl:r.2.length≤2000) (h:(Gn (A++(tn at_ r++rest)) A.length).2.2.2=0):(Gn (tn at_ r) 0).2.2.2=0:=by
 obtain⟨c,e,hk,hd,hn⟩:=Jh7 (by simp) h
 generalize (Gn (A++(tn at_ r++rest)) A.length).1=k at*
 generalize (Gn (A++(tn at_ r++rest)) A.length).2.1=d at*
 have h7:7≤(tn at_ r).length:=by rw[Jed,VJ];omega
 rw[Jbm,Jbm,Jes (by omega),Jes (by omega)] at hn
 have hh:=Joa at_ hl
 rw[List.drop_left] at e
 have hle:(frm k d).length≤(tn at_ r).length:=by rw[Jed,VJ,VJ];omega
 obtain⟨c',hc'⟩:∃c',tn at_ r=frm k d++c':=by
  refine⟨(tn at_ r).drop (frm k d).length,?_⟩
  have e2:=congrArg (List.take (frm k d).length) e
  rw[List.take_left,List.take_append_of_le_length hle] at e2
  have e3:=List.take_append_drop (frm k d).length (tn at_ r)
  rw[e2] at e3
  exact e3.symm
 have g:=Jgl [] c' hk hd
 simp only[List.nil_append,List.length_nil] at g
 rw[hc',g]
theorem JhH {at_:Int} {r:R} (hu:Unl at_ r) (h:(Gn (tn at_ r) 0).2.2.2=0):tn at_ r=frm r.1 r.2:=by
 obtain⟨c,e,_⟩:=Jh7 (Nat.zero_le _) h
 have e2:=hu h
 rw[List.drop_zero] at e
 have e3:(Gn (tn at_ r) 0).1=r.1:=congrArg Prod.fst e2
 have e4:(Gn (tn at_ r) 0).2.1=r.2:=congrArg Prod.snd e2
 rw[e3,e4] at e
 have hc:=congrArg List.length e
 rw[Jed,List.length_append] at hc
 have:c=[]:=List.eq_nil_of_length_eq_zero (by omega)
 rw[this,List.append_nil] at e
 exact e
theorem Jho (keep:List Bool) (torn at_:Int):∀(y:List R) (k:Nat),Ok y→(∀r∈y,Unl at_ r)→
  ∃(j:Nat) (C:List Int),j≤y.length∧(YN keep torn at_ k (y.map fun r=>frm r.1 r.2)).flatten=fl (y.take j)++C∧Byt C∧(∀p,Stop p C)∧(C=[]→j=y.length)∧(C≠[]→j<y.length):=by
 intro y
 induction y with
 |nil=>intro k _ _;exact⟨0,[],Nat.le_refl _,rfl,Byt.nil,JbK,fun _=>rfl,fun h=>absurd rfl h⟩
 | cons r y ih=>
  intro k ho hu
  obtain⟨hk,hl,hb⟩:=ho r (by simp)
  obtain⟨j,C,h1,h2,h3,h4,h5,h6⟩:=ih (k+1) (fun q hq=>ho q (List.mem_cons_of_mem _ hq)) fun q hq=>hu q (List.mem_cons_of_mem _ hq)
  have hby:Byt (YN keep torn at_ (k+1) (y.map fun r=>frm r.1 r.2)).flatten:=by
   rw[h2]
   exact(JiH fun q hq=>ho q (List.mem_cons_of_mem _ (List.mem_of_mem_take hq))).app h3
  have full:YH keep torn at_ k (frm r.1 r.2)=frm r.1 r.2→∃(j:Nat) (C:List Int),j≤(r::y).length∧(YN keep torn at_ k ((r::y).map fun r=>frm r.1 r.2)).flatten=fl ((r::y).take j)++C∧Byt C∧(∀p,Stop p C)∧(C=[]→j=(r::y).length)∧(C≠[]→j<(r::y).length):=fun e=>by
   refine⟨j+1,C,by simp;exact h1,?_,h3,h4,fun hc=>by rw[h5 hc];rfl,fun hc=>by have:=h6 hc;simp;exact this⟩
   rw[List.map_cons,YN,List.flatten_cons,e,h2,List.take_succ_cons,Qs,List.append_assoc]
  have none:∀t,t.length=(frm r.1 r.2).length→Byt t→(∀p,Stop p (t++(YN keep torn at_ (k+1) (y.map fun r=>frm r.1 r.2)).flatten))→YH keep torn at_ k (frm r.1 r.2)=t→∃(j:Nat) (C:List Int),j≤(r::y).length∧(YN keep torn at_ k ((r::y).map fun r=>frm r.1 r.2)).flatten=fl ((r::y).take j)++C∧Byt C∧(∀p,Stop p C)∧(C=[]→j=(r::y).length)∧(C≠[]→j<(r::y).length):=fun t ht htb hst e=>by
   refine⟨0,t++(YN keep torn at_ (k+1) (y.map fun r=>frm r.1 r.2)).flatten,Nat.zero_le _,?_,htb.app hby,hst,fun hc=> ?_,fun _=>by simp⟩
   ·rw[List.map_cons,YN,List.flatten_cons,e];rfl
   ·have:=congrArg List.length hc
    rw[List.length_append,ht,VJ] at this
    simp at this
  by_cases ht:(k:Int)=torn
  ·have e:YH keep torn at_ k (frm r.1 r.2)=tn at_ r:=by unfold YH;rw[if_pos ht];rfl
   by_cases hg:(Gn (tn at_ r) 0).2.2.2=0
   ·exact full (e.trans (JhH (hu r (by simp)) hg))
   ·refine none _ (Jed _ _) (Jk7 _ hb) (fun p=> ?_) e
    unfold Stop
    exact fun h=>hg (Jmr hl h)
  ·by_cases hkp:keep.getD k false=true
   ·exact full (by unfold YH;rw[if_neg ht,if_pos hkp])
   ·refine none (List.replicate (frm r.1 r.2).length 0) (by simp) (Byt.rep _) (fun p=>Jeu p _ ?_) (by unfold YH;rw[if_neg ht,if_neg hkp])
    rw[VJ];rfl
def F (q:List R×Nat):Fl:=⟨fl (q.1.take q.2),(q.1.drop q.2).map fun r=>frm r.1 r.2⟩
theorem Jhy (q:List R×Nat):(F q).all=fl q.1:=by
 unfold F Fl.all
 simp only
 rw[←JmU,←JaJ,List.take_append_drop]
theorem JjU (q:List R×Nat):(F q).settle=F (q.1,q.1.length):=by
 unfold Fl.settle
 rw[Jhy]
 unfold F
 simp
theorem Jjt (keep:List Bool) (torn at_:Int) (q:List R×Nat) (k:Nat) (ho:Ok q.1) (hu:∀r∈q.1,Unl at_ r) (hm:q.2≤q.1.length):
  ∃(n:Nat) (C:List Int),n≤q.1.length∧q.2≤n∧((F q).crash keep torn at_ k).all=fl (q.1.take n)++C∧Byt C∧(∀p,Stop p C)∧(C=[]→n=q.1.length)∧(C≠[]→n<q.1.length):=by
 obtain⟨j,C,h1,h2,h3,h4,h5,h6⟩:=Jho keep torn at_ (q.1.drop q.2) k (fun r hr=>ho r (List.mem_of_mem_drop hr)) fun r hr=>hu r (List.mem_of_mem_drop hr)
 rw[List.length_drop] at h1 h5 h6
 refine⟨q.2+j,C,by omega,by omega,?_,h3,h4,fun hc=>by have:=h5 hc;omega,fun hc=>by have:=h6 hc;omega⟩
 unfold Fl.crash F Fl.all
 simp only
 rw[h2,List.flatten_nil,List.append_nil,List.take_add,JaJ,List.append_assoc]
def JaH (keep:List Bool) (torn at_:Int):Nat→List Fl→List Fl
 |_,[]=>[]
 |k,g::Y=>g.crash keep torn at_ k::JaH keep torn at_ (k+g.ps.length) Y
theorem Jl2 (Y:List Fl) (n:Nat):∀p∈Vo n Y,(n:Int)≤p.1:=by
 intro p hp
 have:p.1∈(Vo n Y).map (·.1):=List.mem_map.2 ⟨p,hp,rfl⟩
 rw[Jar] at this
 obtain⟨i,_,hi⟩:=List.mem_map.1 this
 omega
theorem Jg3 (keep:List Bool) (torn at_:Int):∀(Y:List Fl) (n k:Nat) (pre:List (Int×Fl)),(∀p∈pre,p.1<(n:Int))→
  Wq keep torn at_ ((List.range Y.length).map fun i=>((n+i:Nat):Int)) k (pre++Vo n Y)=pre++Vo n (JaH keep torn at_ k Y):=by
 intro Y
 induction Y with
 |nil=>intro n k pre _;rfl
 | cons g Y ih=>
  intro n k pre hp
  rw[List.length_cons,List.range_succ_eq_map,List.map_cons,List.map_map,Nat.add_zero,Wq]
  have hrest:=Jl2 Y (n+1)
  have hc:cnt (pre++Vo n (g::Y)) (n:Int)=g.ps.length:=by
   unfold cnt
   have e1:pre.filter (fun p=>p.1==(n:Int))=[]:=List.filter_eq_nil_iff.2 fun p h=>by have:=hp p h;simp;omega
   have e2:(Vo (n+1) Y).filter (fun p=>p.1==(n:Int))=[]:=List.filter_eq_nil_iff.2 fun p h=>by have:=hrest p h;simp;omega
   rw[List.filter_append,e1,Vo,List.filter_cons,e2]
   simp
  have hm:(pre++Vo n (g::Y)).map (fun p=>if p.1=(n:Int) then((n:Int),p.2.crash keep torn at_ k) else p)=(pre++[((n:Int),g.crash keep torn at_ k)])++Vo (n+1) Y:=by
   have e1:pre.map (fun p=>if p.1=(n:Int) then((n:Int),p.2.crash keep torn at_ k) else p)=pre:=(List.map_congr_left fun p h=>by rw[if_neg (by have:=hp p h;omega)];rfl).trans (List.map_id _)
   have e2:(Vo (n+1) Y).map (fun p=>if p.1=(n:Int) then((n:Int),p.2.crash keep torn at_ k) else p)=Vo (n+1) Y:=(List.map_congr_left fun p h=>by rw[if_neg (by have:=hrest p h;omega)];rfl).trans (List.map_id _)
   rw[List.map_append,e1,Vo,List.map_cons,e2,if_pos rfl]
   simp
  rw[hc,hm]
  have e3:(List.range Y.length).map ((fun i=>((n+i:Nat):Int))∘Nat.succ)=(List.range Y.length).map fun i=>((n+1+i:Nat):Int):=List.map_congr_left fun i _=>by simp only[Function.comp,Nat.succ_eq_add_one];congr 1;omega
  rw[e3,ih (n+1) (k+g.ps.length) _ fun p h=>by
   rcases List.mem_append.1 h with h|h
   ·have:=hp p h;omega
   ·rw[List.mem_singleton.1 h];simp only;omega]
  simp[JaH,Vo]
theorem Jgn (keep:List Bool) (torn at_:Int) (Y:List Fl):Wq keep torn at_ (Wd (Xb Y)) 0 (Xb Y)=Xb (JaH keep torn at_ 0 Y):=by
 have h:=Jg3 keep torn at_ Y 0 0 [] (fun p h=>by cases h)
 rw[Jjp]
 simpa using h
def Sf (s:Nat):Nat→List (List R×Nat)→Prop
 |b,[]=>s≤b
 |b,q::X=>(q.2<q.1.length→s≤b+q.2)∧Sf s (b+q.1.length) X
theorem Jg5 (keep:List Bool) (torn at_:Int) (s:Nat):∀(X:List (List R×Nat)) (k b:Nat),X≠[]→(∀q∈X,Ok q.1∧q.2≤q.1.length∧∀r∈q.1,Unl at_ r)→Sf s b X→
  ∃(Z:List Fl) (f:Fl) (rest:List Fl) (X1:List (List R×Nat)) (q1:List R×Nat) (X2:List (List R×Nat)) (n:Nat) (C:List Int),X=X1++q1::X2∧JaH keep torn at_ k (X.map F)=Z++f::rest∧Z.map Fl.all=X1.map (fun q=>fl q.1)∧
   f.all=fl (q1.1.take n)++C∧f.all.length=(fl q1.1).length∧Byt C∧(∀p,Stop p C)∧(C=[]→rest=[])∧s≤b+(X1.map (·.1)).flatten.length+(q1.1.take n).length:=by
 intro X
 induction X with
 |nil=>intro k b h;exact absurd rfl h
 | cons q X ih=>
  intro k b _ hX hs
  obtain⟨h1,h2,h3⟩:=hX q (by simp)
  obtain⟨n,C,n1,n2,n3,n4,n5,n6,n7⟩:=Jjt keep torn at_ q k h1 h3 h2
  have hlen:((F q).crash keep torn at_ k).all.length=(fl q.1).length:=by rw[Jfh,Jhy]
  obtain⟨s1,s2⟩:=hs
  rw[List.map_cons,JaH]
  by_cases hC:C=[]
  ·have hn:=n6 hC
   by_cases hX0:X=[]
   ·subst hX0
    refine⟨[],_,[],[],q,[],n,C,rfl,rfl,rfl,n3,hlen,n4,n5,fun _=>rfl,?_⟩
    have:s≤b+q.1.length:=s2
    rw[List.length_take];simp;omega
   ·obtain⟨Z,f,rest,X1,q1,X2,m,C2,e1,e2,e3,e4,e5,e6,e7,e8,e9⟩:=ih (k+(F q).ps.length) (b+q.1.length) hX0 (fun x hx=>hX x (List.mem_cons_of_mem _ hx)) s2
    refine⟨(F q).crash keep torn at_ k::Z,f,rest,q::X1,q1,X2,m,C2,by rw[e1];rfl,by rw[e2];rfl,?_,e4,e5,e6,e7,e8,?_⟩
    ·rw[List.map_cons,List.map_cons,e3,n3,hC,List.append_nil,List.take_of_length_le (by omega)]
    ·rw[List.map_cons,List.flatten_cons,List.length_append];omega
  ·have hn:=n7 hC
   refine⟨[],_,_,[],q,X,n,C,rfl,rfl,rfl,n3,hlen,n4,n5,fun h=>absurd h hC,?_⟩
   have:=s1 (by omega)
   rw[List.length_take];simp;omega
end Go.St
/- A store on a disk that is armed: its crash may come at any call. -/
namespace Go.St
open Go Go.Gw Go.Dk Go.Fr Go.Proofs.Se.D
set_option linter.unusedSimpArgs false
set_option linter.unusedVariables false
def JcN (keep:List Bool) (torn at_:Int) (r:Option (Int×List Bool×Int×Int)):Prop:=∀n k t a,r=some (n,k,t,a)→k=keep∧t=torn∧a=at_
abbrev Up (lim:Int) (fs:List (Int×Fl)) (life:Int) (r:Option (Int×List Bool×Int×Int)):Dk:=⟨lim,fs,false,life,r⟩
abbrev Dn (lim:Int) (fs:List (Int×Fl)) (life:Int):Dk:=⟨lim,fs,true,life,none⟩
section
variable {keep:List Bool} {torn at_ lim life:Int} {fs:List (Int×Fl)} {r:Option (Int×List Bool×Int×Int)}
theorem Jgh (hr:JcN keep torn at_ r):(∃r',JcN keep torn at_ r'∧(Up lim fs life r).spend=(0,Up lim fs life r'))∨∃life',(Up lim fs life r).spend=(8,Dn lim (Wq keep torn at_ (Wd fs) 0 fs) life'):=by
 match r,hr with
 |none,hr=>exact .inl ⟨none,hr,rfl⟩
 | some (n,k,t,a),hr=>
  obtain⟨rfl,rfl,rfl⟩:=hr n k t a rfl
  by_cases h:IntKind.i64.wrap (n- 1)>0
  ·refine .inl ⟨some (IntKind.i64.wrap (n- 1),k,t,a),fun n' k' t' a' e=> ?_,?_⟩
   ·simp only[Option.some.injEq,Prod.mk.injEq] at e
    exact⟨e.2.1.symm,e.2.2.1.symm,e.2.2.2.symm⟩
   ·unfold Dk.spend
    simp only
    rw[if_pos h]
  ·refine .inr ⟨IntKind.i64.wrap (life+1),?_⟩
   unfold Dk.spend
   simp only
   rw[if_neg h]
   rfl
theorem JiC (hr:JcN keep torn at_ r) (g:Dk→Dk):(∃r',JcN keep torn at_ r'∧(Up lim fs life r).andThen g=(0,g (Up lim fs life r')))∨∃life',(Up lim fs life r).andThen g=(8,Dn lim (Wq keep torn at_ (Wd fs) 0 fs) life'):=by
 unfold Dk.andThen
 rcases Jgh (lim:=lim) (fs:=fs) (life:=life) hr with⟨r',h1,h2⟩|⟨l',h2⟩
 ·rw[h2];exact .inl ⟨r',h1,by rw[if_pos rfl]⟩
 ·rw[h2];exact .inr ⟨l',by rw[if_neg (by simp)]⟩
theorem Jms (hr:JcN keep torn at_ r) {n:Int} {f:Fl} (hn:WW fs n=some f):(∃r',JcN keep torn at_ r'∧(Up lim fs life r).sync n=(0,Up lim (XW fs n f.settle) life r'))∨∃life',(Up lim fs life r).sync n=(8,Dn lim (Wq keep torn at_ (Wd fs) 0 fs) life'):=by
 unfold Dk.sync
 rw[if_neg (by simp)]
 simp only[hn]
 exact JiC hr _
theorem Jjh (hr:JcN keep torn at_ r) {n:Int} (h0:0≤n) (h1:n<64) (hn:WW fs n=none):(∃r',JcN keep torn at_ r'∧(Up lim fs life r).create n=(0,Up lim (fs++[(n,⟨[],[]⟩)]) life r'))∨∃life',(Up lim fs life r).create n=(8,Dn lim (Wq keep torn at_ (Wd fs) 0 fs) life'):=by
 unfold Dk.create
 rw[if_neg (by simp),if_neg (by omega),if_neg (by omega)]
 simp only[hn]
 rw[if_neg (by simp)]
 exact JiC hr _
theorem Jiv (hr:JcN keep torn at_ r) {n:Int} {f:Fl} (hn:WW fs n=some f) (b:List Int) (hb:(b.length:Int)≤lim-WT fs):(∃r',JcN keep torn at_ r'∧(Up lim fs life r).append n b=(0,Up lim (XW fs n ⟨f.s,f.ps++[b]⟩) life r'))∨∃life',(Up lim fs life r).append n b=(8,Dn lim (Wq keep torn at_ (Wd (XW fs n ⟨f.s,f.ps++[b]⟩)) 0 (XW fs n ⟨f.s,f.ps++[b]⟩)) life'):=by
 unfold Dk.append
 rw[if_neg (by simp)]
 simp only[hn]
 rw[if_neg (show ¬(b.length:Int)>lim-WT fs by omega)]
 exact Jgh hr
theorem JdA {n:Int} {f:Fl} (hn:WW fs n=some f):(Up lim fs life r).size n=(f.all.length:Int):=by unfold Dk.size;simp only[hn]
end
theorem at_mono {c:Nat} {H:AH} {d:MV} {A:Dk} (h:Jv c H d A) {c':Nat} (hc:c≤c') (hc':c'≤1000000):Jv c' H d A:=by
 obtain⟨i,m,js,hd,hs⟩:=h
 exact⟨i,m,js,hd,hs.mono hc hc'⟩
section
variable {keep:List Bool} {torn at_ lim life:Int} {r:Option (Int×List Bool×Int×Int)}
def Crd (c:Nat) (H:AH) (d:MV) (keep:List Bool) (torn at_ lim:Int) (Y:List Fl):Prop:=∃life,Jv c H d (Dn lim (Xb (JaH keep torn at_ 0 Y)) life)
theorem Crd.of {c:Nat} {H:AH} {d:MV} {Y:List Fl} {life:Int} (h:Jv c H d (Dn lim (Wq keep torn at_ (Wd (Xb Y)) 0 (Xb Y)) life)):Crd c H d keep torn at_ lim Y:=by
 rw[Jgn] at h;exact⟨life,h⟩
theorem Jja {c:Nat} {H H0:AH} {d:MV} {Z:List Fl} {f:Fl} (h:Jv c H d (Up lim (Xb (Z++[f])) life r)) (hr:JcN keep torn at_ r) (h0:JI H0 d=some false) (hc:c<1000000) {k:Int} {b:List Int} (hk:Kin k) (hB:Byt b) (hl:b.length≤2000)
  (hroom:((tot (Z++[f])+7+b.length:Nat):Int)≤lim) {ends dirty:List Int} (he:ends.length≤1000000) (hd:dirty.length≤1000000) {last0:Int} (hq:JD H0 d (List.length ends/2) last0 dirty=some (0,((Z.length:Nat):Int),H)):
  (∃H' x r',Jm H0 d ends last0 dirty k b=some (0,ends++[((Z.length:Nat):Int),x],((Z.length:Nat):Int),ins dirty ((Z.length:Nat):Int),H')∧JcN keep torn at_ r'∧Jv (c+1) H' d (Up lim (Xb (Z++[⟨f.s,f.ps++[frm k b]⟩])) life r'))∨
  (∃H',Jm H0 d ends last0 dirty k b=some (8,ends,((Z.length:Nat):Int),dirty,H')∧Crd (c+1) H' d keep torn at_ lim (Z++[⟨f.s,f.ps++[frm k b]⟩])):=by
 have hput:XR [] k b=some (frm k b,0):=by
  have:=JiI (b:=[]) hk hB hl (by simp)
  simpa using this
 have hget:WW (Xb (Z++[f])) ((Z.length:Nat):Int)=some f:=by rw[Qp];simp
 have hset:(Z++[f]).set Z.length ⟨f.s,f.ps++[frm k b]⟩=Z++[⟨f.s,f.ps++[frm k b]⟩]:=by simp
 obtain⟨H1,e1,e2⟩:=Jeq h ((Z.length:Nat):Int) (frm k b) (by rw[VJ];omega) hc
 rcases Jiv (lim:=lim) (life:=life) hr hget (frm k b) (by rw[JiM,VJ];omega) with⟨r',q1,q2⟩|⟨life',q2⟩
 ·rw[q2,Jcu,hset] at e1 e2
  left
  refine⟨H1,((⟨f.s,f.ps++[frm k b]⟩:Fl).all.length:Int),r',?_,q1,e2⟩
  unfold Jm
  rw[hput,Option.bind_some]
  simp only
  rw[if_neg (by decide),h0,Option.bind_some,if_neg (by decide),hq,Option.bind_some]
  simp only
  rw[if_pos (by decide),e1,Option.bind_some]
  simp only[JC,Option.bind_some]
  rw[if_neg (by decide),Qg e2,Option.bind_some,JdA (f:=⟨f.s,f.ps++[frm k b]⟩) (by rw[Qp];simp),if_pos (by simp[YJ];omega),Jb3 _ _ hd,Option.bind_some]
  unfold ins
  by_cases hm:((Z.length:Nat):Int)∈dirty
  ·rw[if_neg (by simp[hm]),Option.bind_some,if_pos hm]
  ·rw[if_pos (by simp[hm]),if_pos (by simp[YJ];omega),Option.bind_some,if_neg hm]
 ·rw[q2,Jcu,hset] at e1 e2
  right
  refine⟨H1,?_,Crd.of e2⟩
  unfold Jm
  rw[hput,Option.bind_some]
  simp only
  rw[if_neg (by decide),h0,Option.bind_some,if_neg (by decide),hq,Option.bind_some]
  simp only
  rw[if_pos (by decide),e1,Option.bind_some]
  simp only[JC,Option.bind_some]
  rw[if_pos (by simp)]
  simp only[Wz,Option.bind_some]
theorem JiR {c:Nat} {H:AH} {d:MV} {Z:List Fl} {f:Fl} (h:Jv c H d (Up lim (Xb (Z++[f])) life r)) (hr:JcN keep torn at_ r) (hc:c<1000000) {k:Int} {b:List Int} (hk:Kin k) (hB:Byt b) (hl:b.length≤2000)
  (hroom:((tot (Z++[f])+7+b.length:Nat):Int)≤lim) (hz:4096≤f.all.length→Z.length+1<64) {ends dirty:List Int} (he:ends.length≤1000000) (hd:dirty.length≤1000000):
  (∃H' x Z' f' r',Jm H d ends ((Z.length:Nat):Int) dirty k b=some (0,ends++x,((Z'.length:Nat):Int),ins dirty ((Z'.length:Nat):Int),H')∧x.length=2∧JcN keep torn at_ r'∧Jv (c+1) H' d (Up lim (Xb (Z'++[f'])) life r')∧Put (frm k b) Z f Z' f')∨
  (∃H' last' Y,Jm H d ends ((Z.length:Nat):Int) dirty k b=some (8,ends,last',dirty,H')∧Crd (c+1) H' d keep torn at_ lim Y∧(Y=Z++[f]∨∃Z' f',Put (frm k b) Z f Z' f'∧Y=Z'++[f'])):=by
 have h0:JI H d=some false:=JaX h
 have hget:WW (Xb (Z++[f])) ((Z.length:Nat):Int)=some f:=by rw[Qp];simp
 by_cases hf:f.all.length<4096
 ·have hq:JD H d (List.length ends/2) ((Z.length:Nat):Int) dirty=some (0,((Z.length:Nat):Int),H):=by
   unfold JD
   rw[Qg h,Option.bind_some,JdA hget,if_pos (by simp;omega)]
  rcases Jja h hr h0 hc hk hB hl hroom he hd hq with⟨H',x,r',e1,e2,e3⟩|⟨H',e1,e2⟩
  ·exact .inl ⟨H',_,Z,_,r',e1,rfl,e2,e3,.here hf⟩
  ·exact .inr ⟨H',_,_,e1,e2,.inr ⟨Z,_,.here hf,rfl⟩⟩
 ·have hf:=Nat.le_of_not_lt hf
  have hz:=hz hf
  have hw:IntKind.i64.wrap (((Z.length:Nat):Int)+1)=(((Z++[f]).length:Nat):Int):=by rw[Jag _ (by omega) (by omega)];simp
  obtain⟨H1,e1,e2⟩:=Jb0 h (((Z++[f]).length:Nat):Int)
  rcases Jjh (lim:=lim) (life:=life) hr (n:=(((Z++[f]).length:Nat):Int)) (by omega) (by simp;omega) (JaL (Z++[f]) _ (.inr (Int.le_refl _))) with⟨r',q1,q2⟩|⟨life',q2⟩
  ·rw[q2,←Jk9] at e1 e2
   have hq:JD H d (List.length ends/2) ((Z.length:Nat):Int) dirty=some (0,(((Z++[f]).length:Nat):Int),H1):=by
    unfold JD
    rw[Qg h,Option.bind_some,JdA hget,if_neg (by simp;omega),hw,if_neg (by simp;omega),e1,Option.bind_some]
    simp only[JC,Option.bind_some]
    rw[if_pos (by decide),Option.bind_some]
   rcases Jja e2 q1 h0 hc hk hB hl (by rw[JdR];simpa[tot,Fl.all] using hroom) he hd hq with⟨H',x,r'',e1,e2,e3⟩|⟨H',e1,e2⟩
   ·exact .inl ⟨H',_,Z++[f],_,r'',e1,rfl,e2,e3,.next hf⟩
   ·exact .inr ⟨H',_,_,e1,e2,.inr ⟨Z++[f],_,.next hf,rfl⟩⟩
  ·rw[q2] at e1 e2
   refine .inr ⟨H1,((Z.length:Nat):Int),Z++[f],?_,Crd.of (at_mono e2 (by omega) (by omega)),.inl rfl⟩
   have hput:XR [] k b=some (frm k b,0):=by
    have:=JiI (b:=[]) hk hB hl (by simp)
    simpa using this
   have hq:JD H d (List.length ends/2) ((Z.length:Nat):Int) dirty=some (8,((Z.length:Nat):Int),H1):=by
    unfold JD
    rw[Qg h,Option.bind_some,JdA hget,if_neg (by simp;omega),hw,if_neg (by simp;omega),e1,Option.bind_some]
    simp only[JC,Option.bind_some]
    rw[if_neg (by decide),Option.bind_some]
   unfold Jm
   rw[hput,Option.bind_some]
   simp only
   rw[if_neg (by decide),h0,Option.bind_some,if_neg (by decide),hq,Option.bind_some]
   simp only
   rw[if_neg (by simp),Option.bind_some]
   simp only
   rw[if_pos (by simp)]
   simp only[Wz,Option.bind_some]
end
theorem Jnt (s:Nat):∀(X:List (List R×Nat)) (b j:Nat) (q:List R×Nat),X[j]?=some q→Sf s b X→Sf s b (X.set j (q.1,q.1.length)):=by
 intro X
 induction X with
 |nil=>intro b j q h;simp at h
 | cons x X ih=>
  intro b j q h hs
  cases j with
  |zero=>
   simp only[List.getElem?_cons_zero,Option.some.injEq] at h
   subst h
   exact⟨fun hh=>absurd hh (Nat.lt_irrefl _),hs.2⟩
  |succ j=>exact⟨hs.1,ih _ j q (by simpa using h) hs.2⟩
section
variable {keep:List Bool} {torn at_ lim life:Int}
theorem Jhq {c:Nat} {d:MV} (n:Nat) (last:Int):∀(dirty:List Int) (k:Nat) (X:List (List R×Nat)) (H:AH) (r:Option (Int×List Bool×Int×Int)),dirty.length<k→(∀x∈dirty,0≤x∧x<(X.length:Int))→(∀(i:Nat) (q:List R×Nat),X[i]?=some q→q.2<q.1.length→(i:Int)∈dirty)→(∀q∈X,q.2≤q.1.length)→JcN keep torn at_ r→
  Jv c H d (Up lim (Xb (X.map F)) life r)→
  (∃H' r',Jw d n last k H dirty=some (.inl (H',[]))∧JcN keep torn at_ r'∧Jv c H' d (Up lim (Xb ((X.map fun q=>(q.1,q.1.length)).map F)) life r'))∨
  (∃H' X' m,Jw d n last k H dirty=some (.inr (8,last,m,H'))∧X'.map (·.1)=X.map (·.1)∧(∀q∈X',q.2≤q.1.length)∧(∀s b,Sf s b X→Sf s b X')∧Crd c H' d keep torn at_ lim (X'.map F)):=by
 intro dirty
 induction dirty with
 | nil=>
  intro k X H r hk _ hps hml hr h
  obtain⟨k,rfl⟩:∃j,k=j+1:=⟨k- 1,by simp at hk;omega⟩
  left
  refine⟨H,r,by rw[Jw,if_neg (by simp)],hr,?_⟩
  have:X.map (fun q=>(q.1,q.1.length))=X:=(List.map_congr_left fun q hq=>by
   obtain⟨i,hi⟩:=List.getElem?_of_mem hq
   have h1:=hml q hq
   have h2:¬q.2<q.1.length:=fun hlt=>by have:=hps i q hi hlt;cases this
   obtain⟨a,b⟩:=q
   simp only at h1 h2
   simp only[id]
   congr 1;omega).trans (List.map_id _)
  rw[this];exact h
 | cons x t ih=>
  intro k X H r hk hin hps hml hr h
  obtain⟨k,rfl⟩:∃j,k=j+1:=⟨k- 1,by simp at hk;omega⟩
  obtain⟨hx0,hx1⟩:=hin x (by simp)
  obtain⟨j,rfl⟩:∃j:Nat,x=(j:Int):=⟨x.toNat,by omega⟩
  have hj:j<X.length:=by omega
  have hjq:X[j]?=some X[j]:=List.getElem?_eq_getElem hj
  have hset:(X.map F).set j (F X[j]).settle=(X.set j (X[j].1,X[j].1.length)).map F:=by rw[JjU,List.map_set]
  obtain⟨H1,e1,e2⟩:=Jiq h (j:Int)
  have e0:Jw d n last (k+1) H ((j:Int)::t)=(VG H d (j:Int)).bind (fun(r10,H11)=>(JC r10).bind (fun r13=>if(!(decide (r13=0)))=true then(Wz r13).bind (fun r16=>some (.inr (r16,last,(j:Int)::t,H11))) else if 0≤(1:Int)∧(1:Int)≤(↑(List.length ((j:Int)::t)):Int) then Jw d n last k H11 (((j:Int)::t).drop 1) else none)):=by
   rw[Jw,if_pos (decide_eq_true (by simp only[List.length_cons];omega)),if_pos ⟨by omega,by simp only[List.length_cons];omega⟩]
   rfl
  rcases Jms (lim:=lim) (life:=life) hr (n:=(j:Int)) (f:=F X[j]) (by rw[Qp,List.getElem?_map,hjq];rfl) with⟨r',q1,q2⟩|⟨life',q2⟩
  ·rw [q2,Jcu,hset] at e1 e2
   have hstep:Jw d n last (k+1) H ((j:Int)::t)=Jw d n last k H1 t:=by
    rw[e0,e1,Option.bind_some]
    simp only[JC,Option.bind_some]
    rw[if_neg (by decide),if_pos ⟨by omega,by simp only[List.length_cons];omega⟩]
    rfl
   rw[hstep]
   rcases ih k (X.set j (X[j].1,X[j].1.length)) H1 r' (by simp at hk;omega) (fun y hy=>by simpa using hin y (by simp[hy])) (fun i q hq hlt=>by
     rw[List.getElem?_set] at hq
     by_cases hij:j=i
     ·rw[if_pos hij,if_pos (by omega)] at hq
      simp only[Option.some.injEq] at hq
      rw[←hq] at hlt
      exact absurd hlt (Nat.lt_irrefl _)
     ·rw[if_neg hij] at hq
      rcases List.mem_cons.1 (hps i q hq hlt) with w|w
      ·exact absurd w (by omega)
      ·exact w) (fun q hq=>by
     rcases List.mem_or_eq_of_mem_set hq with w|w
     ·exact hml q w
     ·rw[w];exact Nat.le_refl _) q1 e2 with⟨H',r'',g1,g2,g3⟩|⟨H',X',m,g1,g2,g3,g4,g5⟩
   ·left
    refine⟨H',r'',g1,g2,?_⟩
    have:(X.set j (X[j].1,X[j].1.length)).map (fun q=>(q.1,q.1.length))=X.map fun q=>(q.1,q.1.length):=by
     rw[List.map_set]
     have e:(X[j].1,X[j].1.length)=(X.map fun q:List R×Nat=>(q.1,q.1.length))[j]'(by simpa using hj):=by simp
     rw[e,List.set_getElem_self]
    rw[this] at g3
    exact g3
   ·right
    refine⟨H',X',m,g1,?_,g3,fun s b hs=>g4 s b (Jnt s X b j X[j] hjq hs),g5⟩
    rw[g2,List.map_set]
    have e:X[j].1=(X.map fun q:List R×Nat=>q.1)[j]'(by simpa using hj):=by simp
    rw[e,List.set_getElem_self]
  ·rw[q2] at e1 e2
   right
   refine⟨H1,X,(j:Int)::t,?_,rfl,hml,fun s b hs=>hs,Crd.of e2⟩
   rw[e0,e1,Option.bind_some]
   simp only[JC,Option.bind_some]
   rw[if_pos (by decide)]
   simp only[Wz,Option.bind_some]
theorem Jlw {c:Nat} {H:AH} {d:MV} {X:List (List R×Nat)} {r:Option (Int×List Bool×Int×Int)} (h:Jv c H d (Up lim (Xb (X.map F)) life r)) (hr:JcN keep torn at_ r) (n:Nat) (last:Int) {dirty:List Int} (hin:∀x∈dirty,0≤x∧x<(X.length:Int)) (hps:∀(i:Nat) (q:List R×Nat),X[i]?=some q→q.2<q.1.length→(i:Int)∈dirty) (hml:∀q∈X,q.2≤q.1.length):
  (∃H' r',JA H d n last dirty=some (0,last,[],H')∧JcN keep torn at_ r'∧Jv c H' d (Up lim (Xb ((X.map fun q=>(q.1,q.1.length)).map F)) life r'))∨
  (∃H' X' m,JA H d n last dirty=some (8,last,m,H')∧X'.map (·.1)=X.map (·.1)∧(∀q∈X',q.2≤q.1.length)∧(∀s b,Sf s b X→Sf s b X')∧Crd c H' d keep torn at_ lim (X'.map F)):=by
 have h0:JI H d=some false:=JaX h
 rcases Jhq n last dirty (List.length dirty+1) X H r (by omega) hin hps hml hr h with⟨H',r',e,g⟩|⟨H',X',m,e,g⟩
 ·left
  refine⟨H',r',?_,g⟩
  unfold JA
  rw[h0,Option.bind_some,if_neg (by decide),e,Option.bind_some]
 ·right
  refine⟨H',X',m,?_,g⟩
  unfold JA
  rw[h0,Option.bind_some,if_neg (by decide),e,Option.bind_some]
end
end Go.St
/- What StoreLasts plays: Acts that are not too much; whether a torn frame is another one; what is done, one by one. -/
namespace Go.St
open Go Go.Gw Go.Dk Go.Fr Go.Proofs.Se.D
set_option linter.unusedSimpArgs false
set_option linter.unusedVariables false
abbrev AK:List LK:=[.int .i64,.int .i64,.bytes .u8 5,.int .i64,.bytes .u8 5,.bools 4,.int .i64,.int .i64]
structure ActAt (l:List (List DL)) (i:Nat) (a k:Int) (d:List Int) (n:Int) (bs:List Int) (kp:List Bool) (t u:Int):Prop where
 r:l.getD i []=[.int .i64 a,.int .i64 k,.bytes .u8 d,.int .i64 n,.bytes .u8 bs,.bools kp,.int .i64 t,.int .i64 u]
 bd:Byt d
theorem Jk8 {l:List (List DL)} (h:∀r∈l,LKs AK r) {i:Nat} (hi:i<l.length):∃(a k:Int) (d:List Int) (n:Int) (bs:List Int) (kp:List Bool) (t u:Int),ActAt l i a k d n bs kp t u:=by
 obtain⟨hl,h⟩:=h l[i] (List.getElem_mem hi)
 have e:l.getD i []=l[i]:=by rw[List.getD_eq_getElem?_getD,List.getElem?_eq_getElem hi];rfl
 generalize l[i]=r at*
 match r,hl with
 |[d0,d1,d2,d3,d4,d5,d6,d7],_=>
  obtain⟨a,rfl,_⟩:=h 0 _ _ rfl rfl
  obtain⟨k,rfl,_⟩:=h 1 _ _ rfl rfl
  obtain⟨d,rfl,hd⟩:=h 2 _ _ rfl rfl
  obtain⟨n,rfl,_⟩:=h 3 _ _ rfl rfl
  obtain⟨bs,rfl,_⟩:=h 4 _ _ rfl rfl
  obtain⟨kp,rfl⟩:=h 5 _ _ rfl rfl
  obtain⟨t,rfl,_⟩:=h 6 _ _ rfl rfl
  obtain⟨u,rfl,_⟩:=h 7 _ _ rfl rfl
  exact⟨a,k,d,n,bs,kp,t,u,e,hd⟩
section
variable {l:List (List DL)} {i:Nat} {a k:Int} {d:List Int} {n:Int} {bs:List Int} {kp:List Bool} {t u:Int}
theorem ActAt.d0 (h:ActAt l i a k d n bs kp t u):WY l i 0= .int .i64 a:=by rw[WY,h.r];rfl
theorem ActAt.d1 (h:ActAt l i a k d n bs kp t u):WY l i 1= .int .i64 k:=by rw[WY,h.r];rfl
theorem ActAt.d2 (h:ActAt l i a k d n bs kp t u):WY l i 2= .bytes .u8 d:=by rw[WY,h.r];rfl
theorem ActAt.d3 (h:ActAt l i a k d n bs kp t u):WY l i 3= .int .i64 n:=by rw[WY,h.r];rfl
theorem ActAt.d4 (h:ActAt l i a k d n bs kp t u):WY l i 4= .bytes .u8 bs:=by rw[WY,h.r];rfl
theorem ActAt.d5 (h:ActAt l i a k d n bs kp t u):WY l i 5= .bools kp:=by rw[WY,h.r];rfl
theorem ActAt.d6 (h:ActAt l i a k d n bs kp t u):WY l i 6= .int .i64 t:=by rw[WY,h.r];rfl
theorem ActAt.d7 (h:ActAt l i a k d n bs kp t u):WY l i 7= .int .i64 u:=by rw[WY,h.r];rfl
theorem ActAt.g2 (h:ActAt l i a k d n bs kp t u) (κ:Nat):Qj l i 2 [.bs .u8 κ]=true:=by simp[Qj,h.d2,JmG,ikc]
theorem ActAt.g4 (h:ActAt l i a k d n bs kp t u) (κ:Nat):Qj l i 4 [.bs .u8 κ]=true:=by simp[Qj,h.d4,JmG,ikc]
theorem ActAt.g5 (h:ActAt l i a k d n bs kp t u) (κ:Nat):Qj l i 5 [.bb κ]=true:=by simp[Qj,h.d5,JmG]
theorem ActAt.g (h:ActAt l i a k d n bs kp t u):Qj l i 0 [.int .i64,.int .i64,.bs .u8 0,.int .i64,.bs .u8 0,.bb 0,.int .i64,.int .i64]=true:=by
 simp[Qj,h.d0,h.d1,h.d2,h.d3,h.d4,h.d5,h.d6,h.d7,JmG,ikc]
end
theorem Jkm {l:List (List DL)} (h:∀r∈l,LKs AK r) (hl:l.length≤160):∀(j i:Nat),i+j=l.length→
  Wm l (j+1) (i:Int)=some (.inr true)∨Wm l (j+1) (i:Int)=some (.inl ()):=by
 intro j
 induction j with
 |zero=>
  intro i hi
  exact .inr (by rw[Wm,if_neg (by simp;omega)])
 | succ j ih=>
  intro i hi
  rw[Wm,if_pos (decide_eq_true (by omega))]
  by_cases h50:i<40
  ·obtain⟨a,k,d,n,bs,kp,t,u,ha⟩:=Jk8 h (show i<l.length by omega)
   have w2:IntKind.i64.wrap ((i:Int)+1)=((i+1:Nat):Int):=by rw[Jag _ (by omega) (by omega)];omega
   rw[if_pos (decide_eq_true (by omega)),if_pos (by omega),Int.toNat_natCast,if_pos (ha.g2 0),if_pos (ha.g4 0),if_pos (ha.g5 0),w2]
   by_cases h3:(WY l i 2).ints.length>2500
   ·rw[if_pos (decide_eq_true (by omega))];exact .inl rfl
   rw[if_neg (by rw[decide_eq_true_eq];omega)]
   by_cases h4:(WY l i 4).ints.length>300
   ·rw[if_pos (decide_eq_true (by omega))];exact .inl rfl
   rw[if_neg (by rw[decide_eq_true_eq];omega)]
   by_cases h5:(WY l i 5).boolL.length>300
   ·rw[if_pos (decide_eq_true (by omega))];exact .inl rfl
   rw[if_neg (by rw[decide_eq_true_eq];omega)]
   exact ih (i+1) (by omega)
  ·rw[if_neg (by rw[decide_eq_true_eq];omega)]
   exact .inr rfl
theorem JjL {l:List (List DL)} (h:∀r∈l,LKs AK r):XD l=some true∨(XD l=some false∧l.length≤160):=by
 unfold XD
 by_cases hl:l.length>160
 ·rw[if_pos (decide_eq_true (by omega))];exact .inl rfl
 rw[if_neg (by rw[decide_eq_true_eq];omega),show ((l.length:Int)- 0).toNat+1=l.length+1 by omega]
 rcases Jkm h (by omega) l.length 0 (by omega) with e|e
 ·rw[show ((0:Nat):Int)=0 from rfl] at e
  rw[e];exact .inl rfl
 ·rw[show ((0:Nat):Int)=0 from rfl] at e
  rw[e];exact .inr ⟨rfl,by omega⟩
theorem JkO (l:List R) (a i1:Int):∀(j k:Nat) (m:List Int),k+j=m.length→m.length≤100000→Wl l a i1 (j+1) m (k:Int)=some (m.take k++List.replicate (m.length-k) 0):=by
 intro j
 induction j with
 |zero=>
  intro k m hk hm
  rw[Wl,if_neg (by simp;omega),show m.length-k=0 by omega,List.take_of_length_le (by omega)]
  simp
 | succ j ih=>
  intro k m hk hm
  have hkl:k<m.length:=by omega
  rw[Wl,if_pos (by simp;omega),if_pos (by omega),Int.toNat_natCast,show IntKind.i64.wrap ((k:Int)+1)=((k+1:Nat):Int) by rw[Jag _ (by omega) (by omega)];omega,
   ih (k+1) (m.set k 0) (by simp;omega) (by simpa using hm)]
  have e1:(m.set k 0).take (k+1)=m.take k++[0]:=by
   rw[List.take_succ_eq_append_getElem (by simpa using hkl),List.getElem_set_self,List.take_set_of_le (Nat.le_refl k)]
  rw[e1,List.length_set,show m.length-k=m.length- (k+1)+1 by omega,List.replicate_succ]
  simp
theorem JkE (k:Int) (d:List Int) (r:R) (hd:d.length≤900000):WF [(k,d)] [r]=some (decide ((k,d)=r)):=by
 obtain⟨k2,d2⟩:=r
 unfold WF
 rw[if_neg (by simp),show ((([(k,d)]:List R).length:Int)- 0).toNat+1=2 from rfl,Wx,if_pos (by simp),if_pos (by simp),if_pos (by simp)]
 have g1:(([(k,d)]:List R).getD (0:Int).toNat (0,[]))=(k,d):=rfl
 have g2:(([(k2,d2)]:List R).getD (0:Int).toNat (0,[]))=(k2,d2):=rfl
 rw[g1,g2]
 simp only
 by_cases hk:k=k2
 ·subst hk
  rw[if_neg (by simp),JdO _ _ hd,Option.bind_some]
  by_cases he:d=d2
  ·subst he
   rw[if_neg (by simp),show IntKind.i64.wrap ((0:Int)+1)=1 from by decide,Wx,if_neg (by simp),Option.bind_some]
   simp
  ·rw[if_pos (by simp[he]),Option.bind_some]
   simp[he]
 ·rw[if_pos (by simp[hk]),Option.bind_some]
  simp[hk]
theorem Jki {l:List R} (ho:Ok l) (a:Int) (hn:l.length≤1000):∀(j i:Nat),i+j=l.length→
  Vh l a (j+1) (i:Int)=some (.inr true)∨(Vh l a (j+1) (i:Int)=some (.inl ())∧∀r∈l.drop i,Unl a r):=by
 intro j
 induction j with
 |zero=>
  intro i hi
  refine .inr ⟨by rw[Vh,if_neg (by simp;omega)],?_⟩
  rw[List.drop_eq_nil_of_le (by omega)]
  intro r hr;cases hr
 | succ j ih=>
  intro i hi
  have hi':i<l.length:=by omega
  obtain⟨hk,hl,hb⟩:=ho _ (List.getElem_mem hi')
  have eg:l.getD (i:Int).toNat (0,[])=l[i]:=by simp[List.getD,hi']
  have w2:IntKind.i64.wrap ((i:Int)+1)=((i+1:Nat):Int):=by rw[Jag _ (by omega) (by omega)];omega
  have hfl:(frm l[i].1 l[i].2).length≤100000:=by rw[VJ];omega
  have hk0:(if(0:Int)>(if(↑(List.length (frm l[i].1 l[i].2)):Int)<a then(↑(List.length (frm l[i].1 l[i].2)):Int) else a) then(0:Int) else(if(↑(List.length (frm l[i].1 l[i].2)):Int)<a then(↑(List.length (frm l[i].1 l[i].2)):Int) else a))=((min a.toNat (frm l[i].1 l[i].2).length:Nat):Int):=by
   generalize (frm l[i].1 l[i].2).length=n
   by_cases h1:(n:Int)<a
   ·rw[if_pos h1,if_neg (by omega)];omega
   ·rw[if_neg h1]
    by_cases h2:(0:Int)>a
    ·rw[if_pos h2];omega
    ·rw[if_neg h2];omega
  have hfu:((↑(List.length (frm l[i].1 l[i].2)):Int)- ((min a.toNat (frm l[i].1 l[i].2).length:Nat):Int)).toNat+1=((frm l[i].1 l[i].2).length-min a.toNat (frm l[i].1 l[i].2).length)+1:=by omega
  have htn:(frm l[i].1 l[i].2).take (min a.toNat (frm l[i].1 l[i].2).length)++List.replicate ((frm l[i].1 l[i].2).length-min a.toNat (frm l[i].1 l[i].2).length) 0=tn a l[i]:=by
   unfold tn
   by_cases hc:a.toNat≤(frm l[i].1 l[i].2).length
   ·rw[Nat.min_eq_left hc]
   ·rw[Nat.min_eq_right (by omega),List.take_length,List.take_of_length_le (by omega),show (frm l[i].1 l[i].2).length- (frm l[i].1 l[i].2).length=(frm l[i].1 l[i].2).length-a.toNat by omega]
  have hget:=Jjr (Jk7 a hb) (by rw[Jed];exact hfl) 0 (Nat.zero_le _)
  have Jt:(l.take (((i+1:Nat):Int)).toNat).drop (i:Int).toNat=[l[i]]:=by
   rw[Int.toNat_natCast,Int.toNat_natCast,List.take_succ_eq_append_getElem hi',List.drop_append_of_le_length (by rw[List.length_take];omega),List.drop_eq_nil_of_le (by rw[List.length_take];omega),List.nil_append]
  have hdl:(Gn (tn a l[i]) 0).2.1.length≤900000:=by
   by_cases hg:(Gn (tn a l[i]) 0).2.2.2=0
   ·obtain⟨c,_,_,h3,_⟩:=Jh7 (Nat.zero_le _) hg;omega
   ·unfold Gn at hg ⊢
    split
    ·simp
    ·split
     ·split
      ·simp
      ·split
       ·rename_i q1 q2 q3 q4
        rw[if_neg q1,if_pos q2,if_neg q3,if_pos q4] at hg
        exact absurd rfl hg
       ·simp
     ·simp
  rw[Vh,if_pos (by simp;omega),if_pos (by omega),eg,Jgw _ hb (by omega),Option.bind_some,hk0,hfu,JkO l a (i:Int) _ _ (frm l[i].1 l[i].2) (by omega) hfl,Option.bind_some,htn]
  refine(fun z=> ?_) ()
  have hget':YW (tn a l[i]) 0=some (Gn (tn a l[i]) 0):=hget
  rw[hget',Option.bind_some,w2]
  have cont:Unl a l[i]→Vh l a (j+1) ((i+1:Nat):Int)=some (.inr true)∨(Vh l a (j+1) ((i+1:Nat):Int)=some (.inl ())∧∀r∈l.drop i,Unl a r):=fun hu=>by
   rcases ih (i+1) (by omega) with g|⟨g1,g2⟩
   ·exact .inl g
   ·refine .inr ⟨g1,fun r hr=> ?_⟩
    rw[List.drop_eq_getElem_cons hi'] at hr
    rcases List.mem_cons.1 hr with rfl|hr
    ·exact hu
    ·exact g2 r hr
  generalize hG:Gn (tn a l[i]) 0=G at*
  obtain⟨g1,g2,g3,g4⟩:=G
  simp only at hdl ⊢
  by_cases h0:g4=0
  ·rw[if_pos (by simp[h0]),if_pos (by omega),Jt,JkE _ _ _ hdl,Option.bind_some]
   by_cases he:(g1,g2)=l[i]
   ·rw[if_neg (by simp[he])]
    exact cont fun _=>by rw[hG];exact he
   ·rw[if_pos (by simp[he])]
    exact .inl rfl
  ·rw[if_neg (by simpa using h0)]
   exact cont fun h=>by rw[hG] at h;exact absurd h h0
theorem Jkq {l:List R} (ho:Ok l) (a:Int) (hn:l.length≤1000):Xz l a=some true∨(Xz l a=some false∧∀r∈l,Unl a r):=by
 unfold Xz
 rw[show ((l.length:Int)- 0).toNat+1=l.length+1 by omega]
 rcases Jki ho a hn l.length 0 (by omega) with e|⟨e,h⟩
 ·have e':Vh l a (l.length+1) 0=_:=e
  rw[e'];exact .inl rfl
 ·have e':Vh l a (l.length+1) 0=_:=e
  rw[e'];exact .inr ⟨rfl,by rwa [List.drop_zero] at h⟩
structure LI (recs:List R) (s:Nat) (X:List (List R×Nat)):Prop where
 al:(X.map (·.1)).flatten=recs
 ml:∀x∈X,x.2≤x.1.length
 sf:Sf s 0 X
 ne:X≠[]
 big:∀(i:Nat) (x:List R×Nat),X[i]?=some x→i+1<X.length→4096≤(fl x.1).length
 sm:∀x∈X,(fl x.1).length<6103
theorem JmT (s:Nat) (r:R) (q:List R×Nat) (hq:q.2≤q.1.length):∀(X:List (List R×Nat)) (b:Nat),Sf s b (X++[q])→Sf s b (X++[(q.1++[r],q.2)]):=by
 intro X
 induction X with
 |nil=>
  intro b h
  obtain⟨h1,h2⟩:(q.2<q.1.length→s≤b+q.2)∧s≤b+q.1.length:=h
  show (q.2<(q.1++[r]).length→s≤b+q.2)∧s≤b+(q.1++[r]).length
  rw[List.length_append,List.length_singleton]
  refine⟨fun _=> ?_,by omega⟩
  by_cases hlt:q.2<q.1.length
  ·exact h1 hlt
  ·omega
 |cons x X ih=>intro b h;exact⟨h.1,ih _ h.2⟩
theorem JmZ (s:Nat) (r:R):∀(X:List (List R×Nat)) (b:Nat),Sf s b X→Sf s b (X++[([r],0)]):=by
 intro X
 induction X with
 |nil=>
  intro b h
  have h:s≤b:=h
  exact⟨fun _=>h,show s≤b+1 by omega⟩
 |cons x X ih=>intro b h;exact⟨h.1,ih _ h.2⟩
theorem Jng (s:Nat):∀(X:List (List R×Nat)) (b:Nat),s≤b+(X.map (·.1)).flatten.length→Sf s b (X.map fun q=>(q.1,q.1.length)):=by
 intro X
 induction X with
 |nil=>intro b h;show s≤b;simpa using h
 |cons x X ih=>
  intro b h
  rw[List.map_cons,List.flatten_cons,List.length_append] at h
  exact⟨fun hh=>absurd hh (Nat.lt_irrefl _),ih _ (by simp only;omega)⟩
theorem LI.same {recs:List R} {s:Nat} {X X':List (List R×Nat)} (h:LI recs s X) (e:X'.map (·.1)=X.map (·.1)) (ml:∀x∈X',x.2≤x.1.length) {s':Nat} (sf:Sf s' 0 X'):LI recs s' X':=by
 have hl:X'.length=X.length:=by simpa using congrArg List.length e
 have hi:∀(i:Nat) (x:List R×Nat),X'[i]?=some x→∃y,X[i]?=some y∧y.1=x.1:=fun i x hx=>by
  have:=congrArg (fun l=>l[i]?) e
  simp only[List.getElem?_map,hx,Option.map_some] at this
  cases hy:X[i]? with
  |none=>rw[hy] at this;cases this
  |some y=>rw[hy] at this;exact⟨y,rfl,(Option.some.inj this).symm⟩
 refine⟨by rw[e];exact h.al,ml,sf,fun h0=> ?_,fun i x hx hlt=> ?_,fun x hx=> ?_⟩
 ·rw[h0] at hl;exact h.ne (List.eq_nil_of_length_eq_zero hl.symm)
 ·obtain⟨y,hy,e1⟩:=hi i x hx
  rw[←e1];exact h.big i y hy (by omega)
 ·obtain⟨i,hx'⟩:=List.getElem?_of_mem hx
  obtain⟨y,hy,e1⟩:=hi i x hx'
  rw[←e1];exact h.sm y (List.mem_of_getElem? hy)
theorem JnZ (X:List (List R×Nat)):tot (X.map F)=(fl (X.map (·.1)).flatten).length:=by
 rw[JgB,List.map_map,Jdi,List.map_map]
 congr 2
 exact List.map_congr_left fun q _=>Jhy q
theorem LI.tot {recs:List R} {s:Nat} {X:List (List R×Nat)} (h:LI recs s X):tot (X.map F)=(fl recs).length:=by rw[JnZ,h.al]
theorem LI.put {recs:List R} {s:Nat} {X0:List (List R×Nat)} {q:List R×Nat} (h:LI recs s (X0++[q])) {k:Int} {b:List Int} (hl:b.length≤2000) {Z':List Fl} {f':Fl} (hp:Put (frm k b) (X0.map F) (F q) Z' f'):
  ∃X1 q1,Z'=X1.map F∧f'=F q1∧LI (recs++[(k,b)]) s (X1++[q1])∧(∀(i:Nat) (x:List R×Nat),(X1++[q1])[i]?=some x→x.2<x.1.length→i=X1.length∨(X0++[q])[i]?=some x)∧(X0++[q]).length≤(X1++[q1]).length:=by
 have hq:=h.ml q (by simp)
 have e0:∀x:List R×Nat,(F x).s=fl (x.1.take x.2)∧(F x).ps=(x.1.drop x.2).map fun r=>frm r.1 r.2:=fun x=>⟨rfl,rfl⟩
 generalize hZ:X0.map F=Z at hp
 generalize hf:F q=f at hp
 cases hp with
 | here hlt=>
  rw[←hf,Jhy] at hlt
  refine⟨X0,(q.1++[(k,b)],q.2),hZ.symm,?_,⟨?_,?_,JmT s _ q hq X0 0 h.sf,by simp,?_,?_⟩,?_,by simp⟩
  ·rw[←hf]
   unfold F
   simp only
   rw[List.take_append_of_le_length hq,List.drop_append_of_le_length hq,List.map_append]
   rfl
  ·rw[←h.al];simp
  ·intro x hx
   rcases List.mem_append.1 hx with hx|hx
   ·exact h.ml x (List.mem_append_left _ hx)
   ·rw[List.mem_singleton.1 hx];simp only[List.length_append,List.length_singleton];omega
  ·intro i x hx hlt2
   have hiz:i<X0.length:=by simpa using hlt2
   refine h.big i x ?_ (by simpa using hiz)
   rw[List.getElem?_append_left hiz] at hx ⊢;exact hx
  ·intro x hx
   rcases List.mem_append.1 hx with hx|hx
   ·exact h.sm x (List.mem_append_left _ hx)
   ·rw[List.mem_singleton.1 hx]
    simp only
    rw[JaJ,List.length_append,Qs,List.length_append,VJ]
    simp[fl]
    simp[fl] at hlt
    omega
  ·intro i x hx hne
   by_cases hiz:i<X0.length
   ·right
    rw[List.getElem?_append_left hiz] at hx ⊢;exact hx
   ·left
    have:=(List.getElem?_eq_some_iff.1 hx).1
    simp at this;omega
 | next hge=>
  rw[←hf,Jhy] at hge
  refine⟨X0++[q],([(k,b)],0),by rw[List.map_append,hZ,←hf];rfl,?_,⟨?_,?_,JmZ s _ _ 0 h.sf,by simp,?_,?_⟩,?_,by simp⟩
  ·unfold F
   simp[fl]
  ·rw[←h.al];simp
  ·intro x hx
   rcases List.mem_append.1 hx with hx|hx
   ·exact h.ml x hx
   ·rw[List.mem_singleton.1 hx];exact Nat.zero_le _
  ·intro i x hx hlt2
   have hiz:i<(X0++[q]).length:=by simpa using hlt2
   rw[List.getElem?_append_left hiz] at hx
   by_cases hlast:i+1<(X0++[q]).length
   ·exact h.big i x hx hlast
   ·have:i=X0.length:=by simp at hiz hlast;omega
    subst this
    simp at hx
    rw[←hx];exact hge
  ·intro x hx
   rcases List.mem_append.1 hx with hx|hx
   ·exact h.sm x hx
   ·rw[List.mem_singleton.1 hx]
    simp[fl,VJ];omega
  ·intro i x hx hne
   by_cases hiz:i<(X0++[q]).length
   ·right
    rw[List.getElem?_append_left hiz] at hx;exact hx
   ·left
    have:=(List.getElem?_eq_some_iff.1 hx).1
    simp at this hiz ⊢;omega
end Go.St
/- StoreLasts. -/
namespace Go.St
open Go Go.Gw Go.Dk Go.Fr Go.Proofs.Se.D
set_option linter.unusedSimpArgs false
set_option linter.unusedVariables false
structure LS (c:Nat) (H:AH) (d:MV) (keep:List Bool) (torn at_ life:Int) (r:Option (Int×List Bool×Int×Int)) (recs:List R) (s:Nat) (X:List (List R×Nat)) (ends dirty:List Int):Prop where
 h:Jv c H d (Up 131072 (Xb (X.map F)) life r)
 fit:JcN keep torn at_ r
 li:LI recs s X
 ok:Ok recs
 dl:dirty.length≤c
 el:ends.length≤2*c
 d0:∀x∈dirty,0≤x∧x<(X.length:Int)
 d1:∀(i:Nat) (q:List R×Nat),X[i]?=some q→q.2<q.1.length→(i:Int)∈dirty
def JmE (c:Nat) (H:AH) (d:MV) (keep:List Bool) (torn at_:Int) (recs:List R) (s:Nat):Prop:=
 ∃(X:List (List R×Nat)) (rs t:List R),LI rs s X∧recs=rs++t∧((∃life r,JcN keep torn at_ r∧Jv c H d (Up 131072 (Xb (X.map F)) life r))∨Crd c H d keep torn at_ 131072 (X.map F))
theorem Jme {α:Type} {X:List α} (h:X≠[]):∃X0 q,X=X0++[q]:=⟨X.dropLast,X.getLast h,(List.dropLast_concat_getLast h).symm⟩
section
variable {keep:List Bool} {torn at_ life:Int}
theorem LI.files {recs:List R} {s:Nat} {X0:List (List R×Nat)} {q:List R×Nat} (h:LI recs s (X0++[q])) (ho:Ok recs):4096*X0.length≤2007*recs.length:=by
 have h1:=h.tot
 have h2:=Jko ho
 have h3:∀g∈X0.map F,4096≤g.all.length:=fun g hg=>by
  obtain⟨x,hx,rfl⟩:=List.mem_map.1 hg
  obtain⟨i,hi⟩:=List.getElem?_of_mem hx
  have hlt:=(List.getElem?_eq_some_iff.1 hi).1
  rw[Jhy]
  exact h.big i x (by rw[List.getElem?_append_left hlt];exact hi) (by simpa using hlt)
 have h4:=Jld _ h3
 rw[List.map_append,JdR,List.length_map] at*
 omega
theorem LS.append {c:Nat} {H:AH} {d:MV} {r:Option (Int×List Bool×Int×Int)} {recs:List R} {s:Nat} {X:List (List R×Nat)} {ends dirty:List Int} (g:LS c H d keep torn at_ life r recs s X ends dirty) (hc:c≤1000) (hn:recs.length≤60) {k:Int} {b:List Int} (hk:Kin k) (hl:b.length≤2000) (hB:Byt b):
  (∃H' x X' r',Jm H d ends (((X.length- 1:Nat):Nat):Int) dirty k b=some (0,ends++x,((X'.length- 1:Nat):Int),ins dirty ((X'.length- 1:Nat):Int),H')∧LS (c+1) H' d keep torn at_ life r' (recs++[(k,b)]) s X' (ends++x) (ins dirty ((X'.length- 1:Nat):Int)))∨
  (∃H' last',Jm H d ends (((X.length- 1:Nat):Nat):Int) dirty k b=some (8,ends,last',dirty,H')∧JI H' d=some true∧JmE (c+1) H' d keep torn at_ (recs++[(k,b)]) s):=by
 obtain⟨X0,q,rfl⟩:=Jme g.li.ne
 have hX:(X0++[q]).length- 1=(X0.map F).length:=by simp
 have ht:=g.li.tot
 have hf:=Jko g.ok
 have hz:=g.li.files g.ok
 have h:=g.h
 rw[List.map_append] at h
 rw[hX]
 have ho:Ok (recs++[(k,b)]):=Jdy g.ok hk hl hB
 have hmem:∀(n x:Int),x∈ins dirty n↔x∈dirty∨x=n:=by
  intro n x;unfold ins
  split
  ·rename_i hm
   exact⟨fun h=> .inl h,fun h=>h.elim id fun e=>by rw[e];exact hm⟩
  ·simp
 have off:∀{Y:List Fl} {H':AH},Crd (c+1) H' d keep torn at_ 131072 Y→JI H' d=some true:=fun hc=>by
  obtain⟨life',h'⟩:=hc
  exact JaX h'
 rcases JiR h g.fit (by omega) hk hB hl (by
   have e:tot (X0.map F++[F q])=(fl recs).length:=by rw[←ht,List.map_append];rfl
   have e2:tot (X0.map F++List.map F [q])=tot (X0.map F++[F q]):=rfl
   rw[e];omega) (fun _=>by rw[List.length_map];omega) (ends:=ends) (dirty:=dirty) (by have:=g.el;omega) (by have:=g.dl;omega) with⟨H',x,Z',f',r',e1,e2,e3,e4,e5⟩|⟨H',last',Y,e1,e2,e3⟩
 ·obtain⟨X1,q1,rfl,rfl,l1,l2,l3⟩:=g.li.put hl e5
  have hX1:(X1++[q1]).length- 1=(X1.map F).length:=by simp
  left
  refine⟨H',x,X1++[q1],r',by rw[hX1];exact e1,⟨by rw[List.map_append];exact e4,e3,l1,ho,?_,?_,?_,?_⟩⟩
  ·have:=Jf0 dirty ((((X1++[q1]).length- 1:Nat)):Int);have:=g.dl;omega
  ·rw[List.length_append,e2];have:=g.el;omega
  ·intro y hy
   rcases(hmem _ y).1 hy with hy|hy
   ·have:=g.d0 y hy;omega
   ·rw[hy];refine⟨by omega,?_⟩;simp only[List.length_append,List.length_singleton];omega
  ·intro i y hy hne
   refine(hmem _ _).2 ?_
   rcases l2 i y hy hne with w|w
   ·right;rw[w];simp
   ·left;exact g.d1 i y w hne
 ·right
  refine⟨H',last',e1,off e2,?_⟩
  rcases e3 with e3|⟨Z',f',e4,e5⟩
  ·refine⟨X0++[q],recs,[(k,b)],g.li,rfl,.inr ?_⟩
   rw[List.map_append];rw[e3] at e2;exact e2
  ·obtain⟨X1,q1,rfl,rfl,l1,l2,l3⟩:=g.li.put hl e4
   refine⟨X1++[q1],recs++[(k,b)],[],l1,by simp,.inr ?_⟩
   rw[List.map_append];rw[e5] at e2;exact e2
theorem LS.sync {c:Nat} {H:AH} {d:MV} {r:Option (Int×List Bool×Int×Int)} {recs:List R} {s:Nat} {X:List (List R×Nat)} {ends dirty:List Int} (g:LS c H d keep torn at_ life r recs s X ends dirty) (n:Nat):
  (∃H' X' r',JA H d n ((X.length- 1:Nat):Int) dirty=some (0,((X'.length- 1:Nat):Int),[],H')∧LS c H' d keep torn at_ life r' recs recs.length X' ends [])∨
  (∃H' m,JA H d n ((X.length- 1:Nat):Int) dirty=some (8,((X.length- 1:Nat):Int),m,H')∧JI H' d=some true∧JmE c H' d keep torn at_ recs s):=by
 rcases Jlw g.h g.fit n ((X.length- 1:Nat):Int) g.d0 g.d1 g.li.ml with⟨H',r',e1,e2,e3⟩|⟨H',X',m,e1,e2,e3,e4,e5⟩
 ·left
  have hs:LI recs recs.length (X.map fun q=>(q.1,q.1.length)):=g.li.same (by rw[List.map_map];rfl) (fun x hx=>by
   obtain⟨y,_,rfl⟩:=List.mem_map.1 hx;exact Nat.le_refl _) (Jng _ X 0 (by rw[g.li.al];omega))
  refine⟨H',X.map fun q=>(q.1,q.1.length),r',by rw[List.length_map];exact e1,⟨e3,e2,hs,g.ok,by simp,g.el,(fun x hx=>by cases hx),fun i q hq hne=> ?_⟩⟩
  obtain⟨y,_,rfl⟩:=List.mem_map.1 (List.mem_of_getElem? hq)
  exact absurd hne (Nat.lt_irrefl _)
 ·right
  refine⟨H',m,e1,?_,X',recs,[],g.li.same e2 e3 (e4 s 0 g.li.sf),by simp,.inr e5⟩
  obtain⟨life',h'⟩:=e5
  exact JaX h'
end
theorem JgP (l:List (List DL)) (keep:List Bool) (torn at_:Int) (d p:MV) (k:Nat) (H:AH) (ends dirty:List Int) (last:Int) (recs:List R) (s i:Int) (h:JI H d=some true) (hi:0≤i):Jz l keep torn at_ d p (k+1) H ends last dirty recs s i=some (.inl (H,recs,s)):=by
 rw[Jz]
 by_cases h1:(decide (i<(↑(List.length l):Int)))=true
 ·rw[if_pos h1]
  by_cases h2:(decide (i<(40:Int)))=true
  ·rw[if_pos h2,h,Option.bind_some,if_neg (by decide)]
  ·rw[if_neg h2]
 ·rw[if_neg h1]
theorem JeC {c:Nat} {H:AH} {d:MV} {keep:List Bool} {torn at_:Int} {recs:List R} {s:Nat} (h:JmE c H d keep torn at_ recs s) {c':Nat} (hc:c≤c') (hc':c'≤1000000):JmE c' H d keep torn at_ recs s:=by
 obtain⟨X,rs,t,h1,h2,h3⟩:=h
 refine⟨X,rs,t,h1,h2,?_⟩
 rcases h3 with⟨life,r,h4,h5⟩|⟨life,h4⟩
 ·exact .inl ⟨life,r,h4,at_mono h5 hc hc'⟩
 ·exact .inr ⟨life,at_mono h4 hc hc'⟩
theorem JkU {l:List (List DL)} (hl:∀r∈l,LKs AK r) (hn:l.length≤160) (keep:List Bool) (torn at_ life:Int) (d:MV):∀(j i:Nat) (H:AH) (r:Option (Int×List Bool×Int×Int)) (ends dirty:List Int) (recs:List R) (s:Nat) (X:List (List R×Nat)),i+j=l.length→i≤40→recs.length≤i→LS i H d keep torn at_ life r recs s X ends dirty→
  ∃H' recs' s',Jz l keep torn at_ d d (j+1) H ends ((X.length- 1:Nat):Int) dirty recs (s:Int) (i:Int)=some (.inl (H',recs',((s':Nat):Int)))∧JmE 50 H' d keep torn at_ recs' s'∧Ok recs'∧recs'.length≤40:=by
 intro j
 induction j with
 |zero=>
  intro i H r ends dirty recs s X hi h40 hr g
  refine⟨H,recs,s,by rw[Jz,if_neg (by simp;omega)],⟨X,recs,[],g.li,by simp,.inl ⟨life,r,g.fit,at_mono g.h (by omega) (by omega)⟩⟩,g.ok,by omega⟩
 | succ j ih=>
  intro i H r ends dirty recs s X hi h40 hr g
  by_cases hi40:i<40
  case neg=>
   refine⟨H,recs,s,by rw[Jz,if_pos (by simp;omega),if_neg (by simp;omega)],⟨X,recs,[],g.li,by simp,.inl ⟨life,r,g.fit,at_mono g.h (by omega) (by omega)⟩⟩,g.ok,by omega⟩
  obtain⟨a,k,b,n,bs,kp,t,u,ha⟩:=Jk8 hl (show i<l.length by omega)
  have h0:JI H d=some false:=JaX g.h
  have w2:IntKind.i64.wrap ((i:Int)+1)=((i+1:Nat):Int):=by rw[Jag _ (by omega) (by omega)];omega
  rw[Jz,if_pos (by simp;omega),if_pos (by simp;omega),h0,Option.bind_some,if_pos (by decide),if_pos (by omega),Int.toNat_natCast,if_pos ha.g,w2,ha.d1,ha.d2]
  have en:(DL.num (DL.int IntKind.i64 k))=k:=rfl
  have eb:(DL.ints (DL.bytes IntKind.u8 b))=b:=rfl
  rw[en,eb]
  by_cases h3:(((IntKind.u64.wrap (DL.num (WY l i 0))).tmod (4:Int))==(3:Int))=true
  ·rw[if_pos h3]
   rcases g.sync (List.length ends/2) with⟨H',X',r',e1,g'⟩|⟨H',m,e1,e2,e3⟩
   ·obtain⟨H2,recs2,s2,q1,q2⟩:=ih (i+1) H' r' ends [] recs recs.length X' (by omega) (by omega) (by omega) ⟨at_mono g'.h (by omega) (by omega),g'.fit,g'.li,g'.ok,by simp,by have:=g'.el;omega,g'.d0,g'.d1⟩
    refine⟨H2,recs2,s2,?_,q2⟩
    rw[e1,Option.bind_some]
    simp only
    rw[if_pos (by decide),Option.bind_some]
    exact q1
   ·refine⟨H',recs,s,?_,JeC e3 (by omega) (by omega),g.ok,by omega⟩
    rw[e1,Option.bind_some]
    simp only
    rw[if_neg (by decide),Option.bind_some]
    exact JgP _ _ _ _ _ _ _ _ _ _ _ _ _ _ e2 (by omega)
  ·rw[if_neg h3]
   rcases Jiy k b with⟨c,hc,e⟩|⟨hk,hbl,e⟩
   ·rw[e,Option.bind_some,if_pos hc]
    obtain⟨H2,recs2,s2,q1,q2⟩:=ih (i+1) H r ends dirty recs s X (by omega) (by omega) (by omega) ⟨at_mono g.h (by omega) (by omega),g.fit,g.li,g.ok,by have:=g.dl;omega,by have:=g.el;omega,g.d0,g.d1⟩
    exact⟨H2,recs2,s2,q1,q2⟩
   ·rw[e,Option.bind_some,if_neg (by decide)]
    have hmax:List.length (recs++[(k,b)])≤YJ:=Nat.le_trans (by simp;omega) (show 41≤YJ by decide)
    rcases g.append (by omega) (by omega) hk hbl ha.bd with⟨H',x,X',r',e1,g'⟩|⟨H',last',e1,e2,e3⟩
    ·obtain⟨H2,recs2,s2,q1,q2⟩:=ih (i+1) H' r' (ends++x) _ (recs++[(k,b)]) s X' (by omega) (by omega) (by simp;omega) g'
     refine⟨H2,recs2,s2,?_,q2⟩
     rw[e1,Option.bind_some]
     simp only
     rw[if_neg (by decide),if_neg (by decide),if_pos hmax]
     exact q1
    ·refine⟨H',recs++[(k,b)],s,?_,JeC e3 (by omega) (by omega),Jdy g.ok hk hbl ha.bd,by simp;omega⟩
     rw[e1,Option.bind_some]
     simp only
     rw[if_neg (by decide),if_pos (by decide),if_neg (by decide),if_pos hmax]
     exact JgP _ _ _ _ _ _ _ _ _ _ _ _ _ _ e2 (by omega)
theorem Jg2 {c:Nat} {H:AH} {d:MV} {keep:List Bool} {torn at_:Int} {recs:List R} {s:Nat} (h:JmE c H d keep torn at_ recs s):
  ∃(X:List (List R×Nat)) (rs t:List R) (H1 H2:AH) (life:Int),LI rs s X∧recs=rs++t∧JX H d keep torn at_=some H1∧Ve H1 d=some H2∧Jv c H2 d (On 131072 (Xb (JaH keep torn at_ 0 (X.map F))) life):=by
 obtain⟨X,rs,t,h1,h2,h3⟩:=h
 rcases h3 with⟨life,r,h4,h5⟩|⟨life,h4⟩
 ·obtain⟨H1,e1,e2⟩:=JdY h5 keep torn at_
  obtain⟨H2,g1,g2⟩:=JdW e2
  refine⟨X,rs,t,H1,H2,IntKind.i64.wrap (life+1),h1,h2,e1,g1,?_⟩
  rw[←Jgn]
  exact g2
 ·obtain⟨H1,e1,e2⟩:=JdY h4 keep torn at_
  obtain⟨H2,g1,g2⟩:=JdW e2
  exact⟨X,rs,t,H1,H2,life,h1,h2,e1,g1,g2⟩
theorem Jhc {c:Nat} {H:AH} {d:MV} {keep:List Bool} {torn at_ life:Int} {rs:List R} {s:Nat} {X:List (List R×Nat)} (h:Jv c H d (On 131072 (Xb (JaH keep torn at_ 0 (X.map F))) life)) (li:LI rs s X) (ho:Ok rs) (hn:rs.length≤40) (hu:∀r∈rs,Unl at_ r):
  ∃(x t:List R) (H':AH) (ends:List Int) (Z:List Fl) (f:Fl),rs=x++t∧s≤x.length∧VC H d=some (d,ends,((Z.length:Nat):Int),[],x,0,H')∧Jv c H' d (On 131072 (Xb (Z++[f])) life)∧JgD x Z f∧ends.length=2*x.length∧(∀g∈Z++[f],g.ps=[]):=by
 have hmem:∀q∈X,∀r∈q.1,r∈rs:=fun q hq r hr=>by
  rw[←li.al]
  exact List.mem_flatten.2 ⟨q.1,List.mem_map.2 ⟨q,hq,rfl⟩,hr⟩
 obtain⟨Z,f,rest,X1,q1,X2,n,C,e1,e2,e3,e4,e5,e6,e7,e8,e9⟩:=Jg5 keep torn at_ s X 0 0 li.ne (fun q hq=>⟨fun r hr=>ho r (hmem q hq r hr),li.ml q hq,fun r hr=>hu r (hmem q hq r hr)⟩) li.sf
 rw[e2] at h
 have hlz:X1.length=Z.length:=by have:=congrArg List.length e3;simpa using this.symm
 have hlow:low (Xb (Z++f::rest)) ((Z.length:Nat):Int)=Xb (Z++[f]):=by
  have h1:=JlZ (Z++f::rest) (Z.length+1)
  have h2:(Z++f::rest).take (Z.length+1)=Z++[f]:=by rw[show Z++f::rest=(Z++[f])++rest by simp,List.take_left' (by simp)]
  rw[h2] at h1
  rw[←h1]
  unfold low
  refine List.filter_congr fun p _=> ?_
  by_cases hp:p.1≤((Z.length:Nat):Int)
  ·simp[hp];omega
  ·simp[hp];omega
 have hP:∀x∈X1.map (·.1)++[q1.1.take n],Ok x:=fun x hx r hr=>by
  rcases List.mem_append.1 hx with hx|hx
  ·obtain⟨q,hq,rfl⟩:=List.mem_map.1 hx
   exact ho r (hmem q (by rw[e1];simp[hq]) r hr)
  ·rw[List.mem_singleton.1 hx] at hr
   exact ho r (hmem q1 (by rw[e1];simp) r (List.mem_of_mem_take hr))
 have hall:rs=(X1.map (·.1)++[q1.1.take n]).flatten++(q1.1.drop n++(X2.map (·.1)).flatten):=by
  rw[←li.al,e1]
  simp only[List.map_append,List.map_cons,List.flatten_append,List.flatten_cons,List.flatten_nil,List.append_nil,List.append_assoc]
  rw[←List.append_assoc (q1.1.take n),List.take_append_drop]
 have hxl:(X1.map (·.1)++[q1.1.take n]).flatten.length≤40:=by
  have:=congrArg List.length hall
  rw[List.length_append] at this
  omega
 have hZl:∀g∈Z,g.all.length<6103∧4096≤g.all.length:=fun g hg=>by
  have:g.all∈Z.map Fl.all:=List.mem_map_of_mem hg
  rw[e3] at this
  obtain⟨q,hq,hq2⟩:=List.mem_map.1 this
  rw[←hq2]
  obtain⟨i,hi⟩:=List.getElem?_of_mem hq
  have hlt:=(List.getElem?_eq_some_iff.1 hi).1
  refine⟨li.sm q (by rw[e1];simp[hq]),li.big i q (by rw[e1,List.getElem?_append_left hlt];exact hi) (by rw[e1];simp;omega)⟩
 have hfl:f.all.length<6103:=by rw[e5];exact li.sm q1 (by rw[e1];simp)
 obtain⟨H',ends,Z',r,h',hZ',hl⟩:=Jdq h (P:=X1.map (·.1)) (p:=q1.1.take n) (C:=C) (Z:=Z) (f:=f) hlow (fun hC=>by rw[e8 hC];exact JaL _ _ (by simp)) hP (by rw[e3,List.map_map];rfl) e4 e6 (e7 _) (fun g hg=>by
  rcases List.mem_append.1 hg with hg|hg
  ·have:=(hZl g hg).1;omega
  ·rw[List.mem_singleton.1 hg];omega) (by omega)
 have hZ2:Z'=(X1.map (·.1)).map (fun x=>(⟨fl x,[]⟩:Fl))++[⟨fl (q1.1.take n),[]⟩]:=by rw[hZ'];simp
 rw[hZ2] at h'
 refine⟨_,_,H',ends,(X1.map (·.1)).map (fun x=>(⟨fl x,[]⟩:Fl)),⟨fl (q1.1.take n),[]⟩,hall,?_,?_,h',⟨X1.map (·.1),q1.1.take n,rfl,?_,by simp[Fl.all],?_,?_⟩,hl,?_⟩
 ·rw[List.flatten_append,List.length_append];simp only[List.flatten_cons,List.flatten_nil,List.append_nil];omega
 ·rw[List.length_map,List.length_map,hlz];exact r
 ·rw[List.map_map];exact List.map_congr_left fun x _=>by simp[Fl.all]
 ·intro g hg
  obtain⟨x,hx,rfl⟩:=List.mem_map.1 hg
  obtain⟨q,hq,rfl⟩:=List.mem_map.1 hx
  have:fl q.1∈Z.map Fl.all:=by rw[e3];exact List.mem_map.2 ⟨q,hq,rfl⟩
  obtain⟨g0,hg0,hg1⟩:=List.mem_map.1 this
  have:=(hZl g0 hg0).2
  simpa[Fl.all,←hg1] using this
 ·intro g hg
  rcases List.mem_append.1 hg with hg|hg
  ·obtain⟨x,hx,rfl⟩:=List.mem_map.1 hg
   obtain⟨q,hq,rfl⟩:=List.mem_map.1 hx
   have:fl q.1∈Z.map Fl.all:=by rw[e3];exact List.mem_map.2 ⟨q,hq,rfl⟩
   obtain⟨g0,hg0,hg1⟩:=List.mem_map.1 this
   have:=(hZl g0 hg0).1
   simpa[Fl.all,←hg1] using this
  ·rw[List.mem_singleton.1 hg]
   have:=congrArg List.length e4
   rw[List.length_append] at this
   simp only[Fl.all,List.flatten_nil,List.append_nil]
   omega
 ·intro g hg
  rcases List.mem_append.1 hg with hg|hg
  ·obtain⟨x,hx,rfl⟩:=List.mem_map.1 hg;rfl
  ·rw[List.mem_singleton.1 hg]
theorem StoreLasts:∀(a0:List (List DL)) (a1:List Bool) (a2:Int) (a3:Int) (a4:Int),(∀r∈a0,LKs [.int .i64,.int .i64,.bytes .u8 5,.int .i64,.bytes .u8 5,.bools 4,.int .i64,.int .i64] r)→(Lit.int .i64 a2).wf=true→(Lit.int .i64 a3).wf=true→(Lit.int .i64 a4).wf=true→Xe a0 a1 a2 a3 a4=some true:=by
 intro l keep torn at_ trip hwf _ _ _
 unfold Xe
 rcases JjL hwf with e|⟨e,hn⟩
 ·rw[e,Option.bind_some,if_pos rfl]
 rw[e,Option.bind_some,if_neg (by decide)]
 by_cases hkl:keep.length≤300
 case neg=>rw[if_pos (by simp;omega)]
 rw[if_neg (by simp;omega)]
 obtain⟨H,e0,h0⟩:=Jli 131072 (by decide) (by decide)
 obtain⟨H1,e1,h1⟩:=Jeb (show Jv 0 H (.ptr 1 0) (On 131072 [] 0) from h0)
 obtain⟨hN,hP⟩:=JlV h1
 rw[e0,Option.bind_some]
 simp only
 rw[e1,Option.bind_some]
 simp only
 rw[if_neg (by decide),if_neg (by decide),if_pos (.inr hP),if_neg (by decide)]
 obtain⟨H2,r,e2,hr,h2⟩:∃H2 r,(show Option (AH) from if(decide (trip>(0:Int)))=true then(Wj H1 (.ptr 1 0) (IntKind.i64.wrap ((1:Int)+(trip.tmod (60:Int)))) keep torn at_).bind (fun H27=>some H27) else some H1)=some H2∧JcN keep torn at_ r∧Jv 0 H2 (.ptr 1 0) (Up 131072 (Xb [⟨[],[]⟩]) 0 r):=by
  by_cases ht:trip>0
  ·obtain⟨H2,q1,q2⟩:=Jlu h1 (IntKind.i64.wrap ((1:Int)+(trip.tmod (60:Int)))) keep torn at_ (Nat.le_trans hkl (by decide))
   refine⟨H2,_,by rw[if_pos (by simpa using ht),q1,Option.bind_some],?_,q2⟩
   intro n k t a he
   split at he
   ·simp only[Option.some.injEq,Prod.mk.injEq] at he
    exact⟨he.2.1.symm,he.2.2.1.symm,he.2.2.2.symm⟩
   ·cases he
  ·exact⟨H1,none,by rw[if_neg (by simpa using ht)],(fun n k t a he=>by cases he),h1⟩
 refine(congrArg (fun z=>Option.bind z _) e2).trans ?_
 rw[Option.bind_some,show ((l.length:Int)- 0).toNat+1=l.length+1 by omega]
 obtain⟨H3,recs,s,e3,hd,ho,hrl⟩:=JkU hwf hn keep torn at_ 0 (.ptr 1 0) l.length 0 H2 r [] [] [] 0 [([],0)] (by omega) (by omega) (by simp) ⟨by simpa[F,fl] using h2,hr,⟨rfl,by simp,⟨fun h=>Nat.le_refl _,Nat.le_refl _⟩,by simp,fun i x hx hlt=>by simp at hlt,by simp[fl]⟩,(fun r hr=>by cases hr),by simp,by simp,(fun x hx=>by cases hx),fun i q hq hne=>by
  match i with
  |0=>simp at hq;subst hq;simp at hne
  |i+1=>simp at hq⟩
 refine(congrArg (fun z=>Option.bind z _) e3).trans ?_
 rw[Option.bind_some]
 simp only
 rcases Jkq ho at_ (by omega) with e4|⟨e4,hu⟩
 ·rw[e4,Option.bind_some,if_pos rfl]
 rw[e4,Option.bind_some,if_neg (by decide)]
 obtain⟨X,rs,t,H4,H5,life,li,hrs,e5,e6,h6⟩:=Jg2 hd
 have hrl2:rs.length≤40:=by rw[hrs,List.length_append] at hrl;omega
 obtain⟨x,t2,H7,en7,Z7,f7,hx,hs,e7,h7,hh7,el7,hp7⟩:=Jhc h6 li (fun r hr=>ho r (by rw[hrs];simp[hr])) hrl2 fun r hr=>hu r (by rw[hrs];simp[hr])
 have hok:Ok x:=fun r hr=>ho r (by rw[hrs,hx];simp[hr])
 have hxl:x.length≤40:=by rw[hx,List.length_append] at hrl2;omega
 obtain⟨H8,en8,Z8,f8,e8,h8,hh8,l8,el8,hp8⟩:=JeR (C:=[]) h7 hh7 hok (by omega) f7 (by simp) Byt.nil (by decide) JbK (JfV _ _ (by simp)) (fun _=>JaL _ _ (by simp))
 have hsame:∀y:List R,Ok y→y.length≤100→WF y y=some true:=fun y hy hyl=>Jh6 y (by omega) fun r hr=>by have:=(hy r hr).2.1;omega
 have htake:recs.take ((x.length:Int).toNat)=x:=by rw[hrs,hx,Int.toNat_natCast,List.append_assoc,List.take_left]
 have hle:x.length≤recs.length:=by rw[hrs,hx];simp
 rw[e5,Option.bind_some,e6,Option.bind_some,e7,Option.bind_some]
 simp only
 rw[e8,Option.bind_some]
 simp only
 rw[if_neg (by decide),if_neg (by decide),hsame x hok (by omega),Option.bind_some,if_neg (by decide),if_neg (by simp;omega),if_neg (by simp;omega),if_pos (by omega),htake,hsame x hok (by omega),Option.bind_some,if_neg (by decide)]
 simp only[VY,Option.bind_some]
 rw[if_neg (by rw[el8];simp)]
 have hmore:Byt [109,111,114,101]:=fun y hy=>by simp at hy;rcases hy with rfl|rfl|rfl|rfl<;>decide
 have hokl:Ok (x++[(2,[109,111,114,101])]):=Jdy hok (.inr rfl) (by decide) hmore
 have hll:(x++[((2:Int),([109,111,114,101]:List Int))]).length=x.length+1:=by simp
 have htk:(x++[((2:Int),([109,111,114,101]:List Int))]).take x.length=x:=by simp
 have g8:GI (x++[(2,[109,111,114,101])]) x.length 50 H8 (.ptr 1 0) life en8 [] Z8 f8:=⟨h8,by rw[htk];exact hh8,by omega,el8,by simp,(fun y hy=>by cases hy),fun i q hq hne=>absurd (hp8 q (List.mem_of_getElem? hq)) hne⟩
 have hlt:x.length<(x++[((2:Int),([109,111,114,101]:List Int))]).length:=by omega
 obtain⟨H9,x9,Z9,f9,e9,g9,_⟩:=g8.append hokl (by omega) (by omega) hlt
 have hget:(x++[((2:Int),([109,111,114,101]:List Int))])[x.length]=(2,[109,111,114,101]):=by simp
 rw[hget,l8] at e9
 obtain⟨H10,Z10,f10,e10,g10,hp10⟩:=g9.sync (List.length (en8++x9)/2)
 have hmap:(Z10++[f10]).map Fl.lose=Z10++[Fl.lose f10]:=by
  rw[List.map_append]
  congr 1
  exact(List.map_congr_left fun q hq=>Ji2 (hp10 q (List.mem_append_left _ hq))).trans (List.map_id _)
 obtain⟨H11,H12,H13,life',en13,Z13,f13,e11,e12,e13,g13,_⟩:=g10.open hokl (by omega) g10.h g10.hh hmap (C:=[]) (by rw[Ji2 (hp10 f10 (by simp))];simp) Byt.nil (by decide) JbK
 have htk2:(x++[((2:Int),([109,111,114,101]:List Int))]).take (x.length+1)=x++[(2,[109,111,114,101])]:=List.take_of_length_le (by omega)
 rw[htk2] at e13
 have hw:IntKind.i64.wrap ((x.length:Int)+1)=((x.length+1:Nat):Int):=by rw[Jag _ (by omega) (by omega)];omega
 rw[e9,Option.bind_some]
 simp only
 rw[if_neg (by decide),e10,Option.bind_some]
 simp only
 rw[if_neg (by decide),e11,Option.bind_some,e12,Option.bind_some,e13,Option.bind_some]
 simp only
 rw[if_pos (by decide),hll,hw,if_pos (by simp),if_pos (by omega),Int.toNat_natCast,htk,hsame x hok (by omega),Option.bind_some,if_pos rfl,if_pos (by omega),Int.toNat_natCast,htk2,List.drop_left,hsame [(2,[109,111,114,101])] (fun r hr=>by rw[List.mem_singleton.1 hr];exact⟨.inr rfl,by decide,hmore⟩) (by decide),Option.bind_some,if_pos rfl,JjZ]
 rfl
end Go.St

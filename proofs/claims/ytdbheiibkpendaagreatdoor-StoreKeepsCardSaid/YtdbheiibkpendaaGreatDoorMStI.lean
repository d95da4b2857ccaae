/- What has no room is refused; StoreFull. -/
import Derived.Test.YtdbheiibkpendaaGreatDoorMStA
namespace Go.St
open Go Go.Gw Go.Dk Go.Fr Go.Proofs.Se.D
set_option linter.unusedSimpArgs false
set_option linter.unusedVariables false
end Go.St
/- Over and over: what was synced is told; StoreGoes. -/
namespace Go.St
open Go Go.Gw Go.Dk Go.Fr Go.Proofs.Se.D
set_option linter.unusedSimpArgs false
set_option linter.unusedVariables false
theorem Jh2 (f:Fl):Fl.lose (Fl.lose f)=Fl.lose f:=by simp[Fl.lose]
theorem Jic {f:Fl} (h:f.ps=[]):Fl.lose f=f:=by
 obtain⟨s,ps⟩:=f
 simp only at h;subst h
 simp[Fl.lose]
theorem Jfb:∀(ns:List Int) (k:Nat) (fs:List (Int×Fl)),WG [] (-1) 0 ns k fs=fs.map fun p=>if p.1∈ns then(p.1,Fl.lose p.2) else p:=by
 intro ns
 induction ns with
 |nil=>intro k fs;simp[WG]
 | cons n ns ih=>
  intro k fs
  rw[WG,ih,List.map_map]
  refine List.map_congr_left fun p _=> ?_
  simp only[Function.comp]
  by_cases h:p.1=n
  ·rw[if_pos h,JcT]
   by_cases h2:n∈ns
   ·simp[h,h2,Jh2]
   ·simp[h,h2]
  ·rw[if_neg h]
   simp[h]
theorem Jkb (g:Fl→Fl) (Z:List Fl):∀n,(Vk n Z).map (fun p=>(p.1,g p.2))=Vk n (Z.map g):=by
 induction Z with
 |nil=>intro n;rfl
 |cons f r ih=>intro n;simp only[Vk,List.map_cons,ih]
theorem JhM (Z:List Fl):WG [] (-1) 0 (Wb (Xn Z)) 0 (Xn Z)=Xn (Z.map Fl.lose):=by
 rw[Jfb]
 refine Eq.trans ?_ (Jkb Fl.lose Z 0)
 refine List.map_congr_left fun p hp=> ?_
 rw[if_pos ((XP _ _).2 (List.mem_map.2 ⟨p,hp,rfl⟩))]
structure GI (l:List R) (at' c:Nat) (H:AH) (d:MV) (life:Int) (ends dirty:List Int) (Z:List Fl) (f:Fl):Prop where
 h:Jx c H d (On 131072 (Xn (Z++[f])) life)
 hh:JgX (l.take at') Z f
 al:at'≤l.length
 el:ends.length=2*at'
 dl:dirty.length≤c
 d0:∀x∈dirty,0≤x∧x<((Z++[f]).length:Int)
 d1:∀(i:Nat) (g:Fl),(Z++[f])[i]? =some g→g.ps≠[]→(i:Int)∈dirty
theorem GI.append {l:List R} {at' c:Nat} {H:AH} {d:MV} {life:Int} {ends dirty:List Int} {Z:List Fl} {f:Fl} (g:GI l at' c H d life ends dirty Z f) (ho:Ok l) (hn:l.length≤60) (hc:c≤1000) (hi:at'<l.length):
  ∃H' x Z' f',Js H d ends ((Z.length:Nat):Int) dirty l[at'].1 l[at'].2=some (0,ends++x,((Z'.length:Nat):Int),ins dirty ((Z'.length:Nat):Int),H')∧
   GI l (at'+1) (c+1) H' d life (ends++x) (ins dirty ((Z'.length:Nat):Int)) Z' f'∧Put (frm l[at'].1 l[at'].2) Z f Z' f':=by
 have hr:=ho _ (List.getElem_mem hi)
 obtain⟨H',x,Z',f',e,lx,h',hp,hh',_⟩:=Je6 g.h (by omega) g.hh (fun r hr=>ho r (List.mem_of_mem_take hr)) (by rw[List.length_take];omega) hr.1 hr.2.2 hr.2.1 (ends:=ends) (dirty:=dirty) (by have:=g.el;omega) (by have:=g.dl;omega)
 rw[←Jh7 hi] at hh'
 have hmem:∀x,x∈ins dirty ((Z'.length:Nat):Int)↔x∈dirty∨x=((Z'.length:Nat):Int):=by
  intro x;unfold ins
  split
  ·rename_i hm
   exact⟨fun h=> .inl h,fun h=>h.elim id fun e=>by rw[e];exact hm⟩
  ·simp
 refine⟨H',x,Z',f',e,⟨h',hh',hi,by simp[g.el,lx];omega,by have:=Jfd dirty ((Z'.length:Nat):Int);have:=g.dl;omega,fun y hy=> ?_,fun i q hq hne=> ?_⟩,hp⟩
 ·have hlen:(Z++[f]).length≤(Z'++[f']).length:=by cases hp<;>simp
  rcases(hmem y).1 hy with hy|hy
  ·have:=g.d0 y hy;omega
  ·subst hy;simp only[List.length_append,List.length_singleton];omega
 ·refine(hmem _).2 ?_
  cases hp with
  | here hf=>
   by_cases hiz:i<Z.length
   ·left
    refine g.d1 i q ?_ hne
    rw[List.getElem?_append_left hiz] at hq ⊢;exact hq
   ·right
    have:i<(Z++[(⟨f.s,f.ps++[frm l[at'].1 l[at'].2]⟩:Fl)]).length:=(List.getElem?_eq_some_iff.1 hq).1
    simp at this;omega
  | next hf=>
   by_cases hiz:i<(Z++[f]).length
   ·left
    refine g.d1 i q ?_ hne
    rw[List.getElem?_append_left hiz] at hq;exact hq
   ·right
    have:i<(Z++[f]++[(⟨[],[frm l[at'].1 l[at'].2]⟩:Fl)]).length:=(List.getElem?_eq_some_iff.1 hq).1
    simp at this hiz ⊢;omega
theorem Jfl {rs:List R} {Z:List Fl} {f:Fl} (h:JgX rs Z f):JgX rs (Z.map Fl.settle) f.settle:=by
 obtain⟨P,p,e1,e2,e3,e4,e5⟩:=h
 refine⟨P,p,e1,?_,by rw[YI,e3],fun g hg=> ?_,fun g hg=> ?_⟩
 ·rw[List.map_map,←e2];exact List.map_congr_left fun g _=>YI g
 ·obtain⟨g',hg',rfl⟩:=List.mem_map.1 hg
  rw[YI];exact e4 g' hg'
 ·rcases List.mem_append.1 hg with hg|hg
  ·obtain⟨g',hg',rfl⟩:=List.mem_map.1 hg
   rw[YI];exact e5 g' (List.mem_append_left _ hg')
  ·rw[List.mem_singleton.1 hg,YI];exact e5 f (by simp)
theorem GI.sync {l:List R} {at' c:Nat} {H:AH} {d:MV} {life:Int} {ends dirty:List Int} {Z:List Fl} {f:Fl} (g:GI l at' c H d life ends dirty Z f) (n:Nat):
  ∃H' Z' f',Vi H d n ((Z.length:Nat):Int) dirty=some (0,((Z'.length:Nat):Int),[],H')∧GI l at' c H' d life ends [] Z' f'∧∀q∈Z'++[f'],q.ps=[]:=by
 obtain⟨H',e,h'⟩:=JdC g.h n ((Z.length:Nat):Int) g.d0 g.d1
 have hs:∀q∈Z.map Fl.settle++[f.settle],q.ps=[]:=fun q hq=>by
  rcases List.mem_append.1 hq with hq|hq
  ·obtain⟨q',_,rfl⟩:=List.mem_map.1 hq;rfl
  ·rw[List.mem_singleton.1 hq];rfl
 refine⟨H',Z.map Fl.settle,f.settle,by rw[List.length_map];exact e,⟨by simpa using h',Jfl g.hh,g.al,g.el,by simp,(fun x hx=>by cases hx),fun i q hq hne=>absurd (hs q (List.mem_of_getElem? hq)) hne⟩,hs⟩
theorem GI.open {l:List R} {at' c:Nat} {H:AH} {d:MV} {life:Int} {ends:List Int} {Z:List Fl} {f:Fl} (g:GI l at' c H d life ends [] Z f) (ho:Ok l) (hn:l.length≤60) {Z':List Fl} {f':Fl} {c':Nat} {H':AH} (h':Jx c' H' d (On 131072 (Xn (Z'++[f'])) life))
  {f0:Fl} {C:List Int} (hh:JgX (l.take at') Z' f0) (hmap:(Z'++[f']).map Fl.lose=Z'++[Fl.lose f']) (hall:(Fl.lose f').all=f0.all++C) (hB:Byt C) (hC:C.length≤5000) (hst:∀p,Stop p C):
  ∃H1 H2 H3 life' e Z'' f'',Vh H' d [] (-1) 0=some H1∧Vs H1 d=some H2∧Wc H2 d=some (d,e,((Z''.length:Nat):Int),[],l.take at',0,H3)∧GI l at' c' H3 d life' e [] Z'' f''∧(∀q∈Z''++[f''],q.ps=[]):=by
 obtain⟨H1,H2,life',e1,e2,h2⟩:=Jce h' [] (-1) 0
 rw[JhM,hmap] at h2
 have hok:Ok (l.take at'):=fun r hr=>ho r (List.mem_of_mem_take hr)
 have hlen:(l.take at').length=at':=by rw[List.length_take];have:=g.al;omega
 obtain⟨H3,e,Z'',f'',r,h3,hh3,lz,le,hs⟩:=Jiv h2 hh hok (by rw[hlen];have:=g.al;omega) (Fl.lose f') hall hB hC hst (Jho _ _ (by simp)) (fun _=>Jgn _ _ (by simp))
 refine⟨H1,H2,H3,life',e,Z'',f'',e1,e2,by rw[lz];exact r,⟨h3,hh3,g.al,by rw[le,hlen],by simp,(fun x hx=>by cases hx),fun i q hq hne=>absurd (hs q (List.mem_of_getElem? hq)) hne⟩,hs⟩
end Go.St
/- A crash of a store's files, whatever is kept: what is read of them is a beginning. -/
namespace Go.St
open Go Go.Gw Go.Dk Go.Fr Go.Proofs.Se.D
set_option linter.unusedSimpArgs false
set_option linter.unusedVariables false
theorem JeO {a l:List Int} {j:Nat} (h:j<a.length):(a++l).getD j 0=a.getD j 0:=by
 rw[List.getD_eq_getElem?_getD,List.getElem?_append_left h,←List.getD_eq_getElem?_getD]
def tn (at_:Int) (r:R):List Int:=(frm r.1 r.2).take at_.toNat++List.replicate ((frm r.1 r.2).length-at_.toNat) 0
def Unl (at_:Int) (r:R):Prop:=(Gn (tn at_ r) 0).2.2.2=0→((Gn (tn at_ r) 0).1,(Gn (tn at_ r) 0).2.1)=r
def F (q:List R×Nat):Fl:=⟨fl (q.1.take q.2),(q.1.drop q.2).map fun r=>frm r.1 r.2⟩
theorem JcB (q:List R×Nat):(F q).all=fl q.1:=by
 unfold F Fl.all
 simp only
 rw[←Jmb,←Jab,List.take_append_drop]
def Jd6 (keep:List Bool) (torn at_:Int):Nat→List Fl→List Fl
 |_,[]=>[]
 |k,g::Y=>g.crash keep torn at_ k::Jd6 keep torn at_ (k+g.ps.length) Y
theorem JkT (Y:List Fl) (n:Nat):∀p∈Vk n Y,(n:Int)≤p.1:=by
 intro p hp
 have:p.1∈(Vk n Y).map (·.1):=List.mem_map.2 ⟨p,hp,rfl⟩
 rw[Jat] at this
 obtain⟨i,_,hi⟩:=List.mem_map.1 this
 omega
theorem Jg5 (keep:List Bool) (torn at_:Int):∀(Y:List Fl) (n k:Nat) (pre:List (Int×Fl)),(∀p∈pre,p.1<(n:Int))→
  WG keep torn at_ ((List.range Y.length).map fun i=>((n+i:Nat):Int)) k (pre++Vk n Y)=pre++Vk n (Jd6 keep torn at_ k Y):=by
 intro Y
 induction Y with
 |nil=>intro n k pre _;rfl
 | cons g Y ih=>
  intro n k pre hp
  rw[List.length_cons,List.range_succ_eq_map,List.map_cons,List.map_map,Nat.add_zero,WG]
  have hrest:=JkT Y (n+1)
  have hc:cnt (pre++Vk n (g::Y)) (n:Int)=g.ps.length:=by
   unfold cnt
   have e1:pre.filter (fun p=>p.1==(n:Int))=[]:=List.filter_eq_nil_iff.2 fun p h=>by have:=hp p h;simp;omega
   have e2:(Vk (n+1) Y).filter (fun p=>p.1==(n:Int))=[]:=List.filter_eq_nil_iff.2 fun p h=>by have:=hrest p h;simp;omega
   rw[List.filter_append,e1,Vk,List.filter_cons,e2]
   simp
  have hm:(pre++Vk n (g::Y)).map (fun p=>if p.1=(n:Int) then((n:Int),p.2.crash keep torn at_ k) else p)=(pre++[((n:Int),g.crash keep torn at_ k)])++Vk (n+1) Y:=by
   have e1:pre.map (fun p=>if p.1=(n:Int) then((n:Int),p.2.crash keep torn at_ k) else p)=pre:=(List.map_congr_left fun p h=>by rw[if_neg (by have:=hp p h;omega)];rfl).trans (List.map_id _)
   have e2:(Vk (n+1) Y).map (fun p=>if p.1=(n:Int) then((n:Int),p.2.crash keep torn at_ k) else p)=Vk (n+1) Y:=(List.map_congr_left fun p h=>by rw[if_neg (by have:=hrest p h;omega)];rfl).trans (List.map_id _)
   rw[List.map_append,e1,Vk,List.map_cons,e2,if_pos rfl]
   simp
  rw[hc,hm]
  have e3:(List.range Y.length).map ((fun i=>((n+i:Nat):Int))∘Nat.succ)=(List.range Y.length).map fun i=>((n+1+i:Nat):Int):=List.map_congr_left fun i _=>by simp only[Function.comp,Nat.succ_eq_add_one];congr 1;omega
  rw[e3,ih (n+1) (k+g.ps.length) _ fun p h=>by
   rcases List.mem_append.1 h with h|h
   ·have:=hp p h;omega
   ·rw[List.mem_singleton.1 h];simp only;omega]
  simp[Jd6,Vk]
theorem Jj8 (keep:List Bool) (torn at_:Int) (Y:List Fl):WG keep torn at_ (Wb (Xn Y)) 0 (Xn Y)=Xn (Jd6 keep torn at_ 0 Y):=by
 have h:=Jg5 keep torn at_ Y 0 0 [] (fun p h=>by cases h)
 rw[JhB]
 simpa using h
def Sf (s:Nat):Nat→List (List R×Nat)→Prop
 |b,[]=>s≤b
 |b,q::X=>(q.2<q.1.length→s≤b+q.2)∧Sf s (b+q.1.length) X
end Go.St
/- A store on a disk that is armed: its crash may come at any call. -/
namespace Go.St
open Go Go.Gw Go.Dk Go.Fr Go.Proofs.Se.D
set_option linter.unusedSimpArgs false
set_option linter.unusedVariables false
def JnF (keep:List Bool) (torn at_:Int) (r:Option (Int×List Bool×Int×Int)):Prop:=∀n k t a,r=some (n,k,t,a)→k=keep∧t=torn∧a=at_
abbrev Up (lim:Int) (fs:List (Int×Fl)) (life:Int) (r:Option (Int×List Bool×Int×Int)):Dk:=⟨lim,fs,false,life,r⟩
abbrev Dn (lim:Int) (fs:List (Int×Fl)) (life:Int):Dk:=⟨lim,fs,true,life,none⟩
section
variable {keep:List Bool} {torn at_ lim life:Int} {fs:List (Int×Fl)} {r:Option (Int×List Bool×Int×Int)}
end
theorem at_mono {c:Nat} {H:AH} {d:MV} {A:Dk} (h:Jx c H d A) {c':Nat} (hc:c≤c') (hc':c'≤1000000):Jx c' H d A:=by
 obtain⟨i,m,js,hd,hs⟩:=h
 exact⟨i,m,js,hd,hs.mono hc hc'⟩
section
variable {keep:List Bool} {torn at_ lim life:Int} {r:Option (Int×List Bool×Int×Int)}
def Crd (c:Nat) (H:AH) (d:MV) (keep:List Bool) (torn at_ lim:Int) (Y:List Fl):Prop:=∃life,Jx c H d (Dn lim (Xn (Jd6 keep torn at_ 0 Y)) life)
theorem Crd.of {c:Nat} {H:AH} {d:MV} {Y:List Fl} {life:Int} (h:Jx c H d (Dn lim (WG keep torn at_ (Wb (Xn Y)) 0 (Xn Y)) life)):Crd c H d keep torn at_ lim Y:=by
 rw[Jj8] at h;exact⟨life,h⟩
end
section
variable {keep:List Bool} {torn at_ lim life:Int}
end
end Go.St
/- The files of a store, by its records. -/
namespace Go.St
open Go Go.Gw Go.Dk Go.Fr Go.Proofs.Se.D
set_option linter.unusedSimpArgs false
set_option linter.unusedVariables false
structure LI (recs:List R) (s:Nat) (X:List (List R×Nat)):Prop where
 al:(X.map (·.1)).flatten=recs
 ml:∀x∈X,x.2≤x.1.length
 sf:Sf s 0 X
 ne:X≠[]
 big:∀(i:Nat) (x:List R×Nat),X[i]? =some x→i+1<X.length→4096≤(fl x.1).length
 sm:∀x∈X,(fl x.1).length<6103
theorem Jl8 (s:Nat) (r:R) (q:List R×Nat) (hq:q.2≤q.1.length):∀(X:List (List R×Nat)) (b:Nat),Sf s b (X++[q])→Sf s b (X++[(q.1++[r],q.2)]):=by
 intro X
 induction X with
 |nil=>
  intro b h
  obtain⟨h1,h2⟩:(q.2<q.1.length→s≤b+q.2)∧s≤b+q.1.length:=h
  show (q.2<(q.1++[r]).length→s≤b+q.2)∧s≤b+(q.1++[r]).length
  rw[List.length_append,List.length_singleton]
  refine⟨fun _=> ?_,by omega⟩
  by_cases hlt:q.2<q.1.length
  ·exact h1 hlt
  ·omega
 |cons x X ih=>intro b h;exact⟨h.1,ih _ h.2⟩
theorem Jmm (s:Nat) (r:R):∀(X:List (List R×Nat)) (b:Nat),Sf s b X→Sf s b (X++[([r],0)]):=by
 intro X
 induction X with
 |nil=>
  intro b h
  have h:s≤b:=h
  exact⟨fun _=>h,show s≤b+1 by omega⟩
 |cons x X ih=>intro b h;exact⟨h.1,ih _ h.2⟩
theorem LI.same {recs:List R} {s:Nat} {X X':List (List R×Nat)} (h:LI recs s X) (e:X'.map (·.1)=X.map (·.1)) (ml:∀x∈X',x.2≤x.1.length) {s':Nat} (sf:Sf s' 0 X'):LI recs s' X':=by
 have hl:X'.length=X.length:=by simpa using congrArg List.length e
 have hi:∀(i:Nat) (x:List R×Nat),X'[i]? =some x→∃y,X[i]? =some y∧y.1=x.1:=fun i x hx=>by
  have:=congrArg (fun l=>l[i]?) e
  simp only[List.getElem?_map,hx,Option.map_some] at this
  cases hy:X[i]? with
  |none=>rw[hy] at this;cases this
  |some y=>rw[hy] at this;exact⟨y,rfl,(Option.some.inj this).symm⟩
 refine⟨by rw[e];exact h.al,ml,sf,fun h0=> ?_,fun i x hx hlt=> ?_,fun x hx=> ?_⟩
 ·rw[h0] at hl;exact h.ne (List.eq_nil_of_length_eq_zero hl.symm)
 ·obtain⟨y,hy,e1⟩:=hi i x hx
  rw[←e1];exact h.big i y hy (by omega)
 ·obtain⟨i,hx'⟩:=List.getElem?_of_mem hx
  obtain⟨y,hy,e1⟩:=hi i x hx'
  rw[←e1];exact h.sm y (List.mem_of_getElem? hy)
theorem JmT (X:List (List R×Nat)):tot (X.map F)=(fl (X.map (·.1)).flatten).length:=by
 rw[Jf4,List.map_map,Jc0,List.map_map]
 congr 2
 exact List.map_congr_left fun q _=>JcB q
theorem LI.tot {recs:List R} {s:Nat} {X:List (List R×Nat)} (h:LI recs s X):tot (X.map F)=(fl recs).length:=by rw[JmT,h.al]
theorem LI.here {recs:List R} {s:Nat} {X0:List (List R×Nat)} {q:List R×Nat} (h:LI recs s (X0++[q])) {k:Int} {b:List Int} (hl:b.length≤2000) (hlt:(fl q.1).length<4096):LI (recs++[(k,b)]) s (X0++[(q.1++[(k,b)],q.2)]):=by
 have hq:=h.ml q (by simp)
 refine⟨?_,?_,Jl8 s _ q hq X0 0 h.sf,by simp,?_,?_⟩
 ·rw[←h.al];simp
 ·intro x hx
  rcases List.mem_append.1 hx with hx|hx
  ·exact h.ml x (List.mem_append_left _ hx)
  ·rw[List.mem_singleton.1 hx];simp only[List.length_append,List.length_singleton];omega
 ·intro i x hx hlt2
  have hiz:i<X0.length:=by simpa using hlt2
  refine h.big i x ?_ (by simpa using hiz)
  rw[List.getElem?_append_left hiz] at hx ⊢;exact hx
 ·intro x hx
  rcases List.mem_append.1 hx with hx|hx
  ·exact h.sm x (List.mem_append_left _ hx)
  ·rw[List.mem_singleton.1 hx]
   simp only
   rw[Jab,List.length_append,Jar,List.length_append,Wt]
   simp only[fl,List.map_nil,List.flatten_nil,List.length_nil] at hlt ⊢
   omega
theorem LI.next {recs:List R} {s:Nat} {X0:List (List R×Nat)} {q:List R×Nat} (h:LI recs s (X0++[q])) {k:Int} {b:List Int} (hl:b.length≤2000) (hge:4096≤(fl q.1).length):LI (recs++[(k,b)]) s (X0++[q]++[([(k,b)],0)]):=by
 refine⟨?_,?_,Jmm s _ _ 0 h.sf,by simp,?_,?_⟩
 ·rw[←h.al];simp
 ·intro x hx
  rcases List.mem_append.1 hx with hx|hx
  ·exact h.ml x hx
  ·rw[List.mem_singleton.1 hx];exact Nat.zero_le _
 ·intro i x hx hlt2
  have hiz:i<(X0++[q]).length:=by simpa using hlt2
  rw[List.getElem?_append_left hiz] at hx
  by_cases hlast:i+1<(X0++[q]).length
  ·exact h.big i x hx hlast
  ·have:i=X0.length:=by simp at hiz hlast;omega
   subst this
   simp at hx
   rw[←hx];exact hge
 ·intro x hx
  rcases List.mem_append.1 hx with hx|hx
  ·exact h.sm x hx
  ·rw[List.mem_singleton.1 hx]
   simp[fl,Wt];omega
theorem Jku (q:List R×Nat) (hq:q.2≤q.1.length) (k:Int) (b:List Int):(⟨(F q).s,(F q).ps++[frm k b]⟩:Fl)=F (q.1++[(k,b)],q.2):=by
 unfold F
 simp only
 rw[List.take_append_of_le_length hq,List.drop_append_of_le_length hq,List.map_append]
 rfl
theorem Jkv (k:Int) (b:List Int):(⟨[],[frm k b]⟩:Fl)=F ([(k,b)],0):=by
 unfold F
 simp[fl]
theorem Jhf {X0:List (List R×Nat)} {q q':List R×Nat} {i:Nat} {x:List R×Nat} (hx:(X0++[q'])[i]? =some x):i=X0.length∨(X0++[q])[i]? =some x:=by
 by_cases hiz:i<X0.length
 ·right
  rw[List.getElem?_append_left hiz] at hx ⊢;exact hx
 ·left
  have:=(List.getElem?_eq_some_iff.1 hx).1
  simp at this;omega
theorem LI.put {recs:List R} {s:Nat} {X0:List (List R×Nat)} {q:List R×Nat} (h:LI recs s (X0++[q])) {k:Int} {b:List Int} (hl:b.length≤2000) {Z':List Fl} {f':Fl} (hp:Put (frm k b) (X0.map F) (F q) Z' f'):
  ∃X1 q1,Z'=X1.map F∧f'=F q1∧LI (recs++[(k,b)]) s (X1++[q1])∧(∀(i:Nat) (x:List R×Nat),(X1++[q1])[i]? =some x→x.2<x.1.length→i=X1.length∨(X0++[q])[i]? =some x)∧(X0++[q]).length≤(X1++[q1]).length:=by
 have hq:=h.ml q (by simp)
 generalize hZ:X0.map F=Z at hp
 generalize hf:F q=f at hp
 cases hp with
 |here hlt=>
  rw[←hf,JcB] at hlt
  refine⟨X0,(q.1++[(k,b)],q.2),hZ.symm,?_,h.here hl hlt,fun i x hx _=>Jhf hx,by simp⟩
  rw[←hf]
  exact Jku q hq k b
 | next hge=>
  rw[←hf,JcB] at hge
  refine⟨X0++[q],([(k,b)],0),by rw[List.map_append,hZ,←hf];rfl,Jkv k b,h.next hl hge,fun i x hx _=> ?_,by simp⟩
  by_cases hiz:i<(X0++[q]).length
  ·right
   rw[List.getElem?_append_left hiz] at hx;exact hx
  ·left
   have:=(List.getElem?_eq_some_iff.1 hx).1
   simp at this hiz ⊢;omega
theorem LI.files {recs:List R} {s:Nat} {X0:List (List R×Nat)} {q:List R×Nat} (h:LI recs s (X0++[q])) (ho:Ok recs):4096*X0.length≤2007*recs.length:=by
 have h1:=h.tot
 have h2:=JjU ho
 have h3:∀g∈X0.map F,4096≤g.all.length:=fun g hg=>by
  obtain⟨x,hx,rfl⟩:=List.mem_map.1 hg
  obtain⟨i,hi⟩:=List.getElem?_of_mem hx
  have hlt:=(List.getElem?_eq_some_iff.1 hi).1
  rw[JcB]
  exact h.big i x (by rw[List.getElem?_append_left hlt];exact hi) (by simpa using hlt)
 have h4:=Jkp _ h3
 rw[List.map_append,Jdc,List.length_map] at*
 omega
end Go.St
/- The first few are kept; StoreKeeps. -/
namespace Go.St
open Go Go.Gw Go.Dk Go.Fr Go.Proofs.Se.D
set_option linter.unusedSimpArgs false
set_option linter.unusedVariables false
def QR (i:Nat):List R→List R→List Int
 |_,[]=>[]
 |p,r::y=>(i:Int)::((fl (p++[r])).length:Int)::QR i (p++[r]) y
def QQ:Nat→List (List R)→List Int
 |_,[]=>[]
 |i,x::X=>QR i [] x++QQ (i+1) X
theorem JaE (i:Nat):∀(y p:List R),(QR i p y).length=2*y.length:=by
 intro y
 induction y with
 |nil=>intro p;rfl
 |cons r y ih=>intro p;rw[QR,List.length_cons,List.length_cons,ih,List.length_cons];omega
theorem Jcr:∀(X:List (List R)) (i:Nat),(QQ i X).length=2*X.flatten.length:=by
 intro X
 induction X with
 |nil=>intro i;rfl
 |cons x X ih=>intro i;rw[QQ,List.length_append,JaE,ih,List.flatten_cons,List.length_append];omega
theorem JgB (i:Nat) (r:R):∀(y p:List R),QR i p (y++[r])=QR i p y++[(i:Int),((fl (p++y++[r])).length:Int)]:=by
 intro y
 induction y with
 |nil=>intro p;simp[QR]
 |cons q y ih=>intro p;simp only[List.cons_append,QR,ih];simp
theorem Ja0:∀(X:List (List R)) (i:Nat) (x:List R),QQ i (X++[x])=QQ i X++QR (i+X.length) [] x:=by
 intro X
 induction X with
 |nil=>intro i x;simp[QQ]
 |cons y X ih=>intro i x;simp only[List.cons_append,QQ,ih,List.length_cons,List.append_assoc];rw[show i+1+X.length=i+(X.length+1) by omega]
theorem Jjs (i:Nat):∀(y p:List R) (j:Nat),j<y.length→(QR i p y).getD (j*2) 0=(i:Int)∧(QR i p y).getD (j*2+1) 0=((fl (p++y.take (j+1))).length:Int):=by
 intro y
 induction y with
 |nil=>intro p j h;simp at h
 | cons r y ih=>
  intro p j h
  cases j with
  |zero=>exact⟨rfl,by simp[QR]⟩
  |succ j=>
   obtain⟨h1,h2⟩:=ih (p++[r]) j (by simpa using h)
   rw[QR,show (j+1)*2=j*2+1+1 by omega,show j*2+1+1+1=j*2+1+1+1 from rfl]
   refine⟨by simpa[List.getD] using h1,?_⟩
   have:(p++(r::y).take (j+1+1))=p++[r]++y.take (j+1):=by simp
   rw[this]
   simpa[List.getD] using h2
theorem JkX:∀(X:List (List R)) (i0 m:Nat),m<X.flatten.length→∃(i:Nat) (x:List R) (j:Nat),X[i]? =some x∧j<x.length∧m=(X.take i).flatten.length+j∧
  (QQ i0 X).getD (m*2) 0=((i0+i:Nat):Int)∧(QQ i0 X).getD (m*2+1) 0=((fl (x.take (j+1))).length:Int):=by
 intro X
 induction X with
 |nil=>intro i0 m h;simp at h
 | cons x X ih=>
  intro i0 m h
  rw[List.flatten_cons,List.length_append] at h
  by_cases hm:m<x.length
  ·obtain⟨h1,h2⟩:=Jjs i0 x [] m hm
   refine⟨0,x,m,rfl,hm,by simp,?_,?_⟩
   ·rw[QQ,JeO (by rw[JaE];omega),h1];simp
   ·rw[QQ,JeO (by rw[JaE];omega),h2];simp
  ·obtain⟨i,y,j,e1,e2,e3,e4,e5⟩:=ih (i0+1) (m-x.length) (by omega)
   have hsh:∀k,(QQ i0 (x::X)).getD ((QR i0 [] x).length+k) 0=(QQ (i0+1) X).getD k 0:=fun k=>by rw[QQ];exact Jb9 _ _ _
   rw[JaE] at hsh
   refine⟨i+1,y,j,by simpa using e1,e2,?_,?_,?_⟩
   ·rw[List.take_succ_cons,List.flatten_cons,List.length_append];omega
   ·rw[show m*2=2*x.length+(m-x.length)*2 by omega,hsh,e4];congr 1;omega
   ·rw[show m*2+1=2*x.length+((m-x.length)*2+1) by omega,hsh,e5]
theorem Jbc {c:Nat} {H H0:AH} {d:MV} {lim life:Int} {Z:List Fl} {f:Fl} (h:Jx c H d (On lim (Xn (Z++[f])) life)) (h0:Vb H0 d=some false) (hc:c<1000000) {k:Int} {b:List Int} (hk:Kin k) (hB:Byt b) (hl:b.length≤2000)
  (hroom:((tot (Z++[f])+7+b.length:Nat):Int)≤lim) {ends dirty:List Int} (he:ends.length≤1000000) (hd:dirty.length≤1000000) {last0:Int} (hr:Vj H0 d (List.length ends/2) last0 dirty=some (0,((Z.length:Nat):Int),H)):
  ∃H',Js H0 d ends last0 dirty k b=some (0,ends++[((Z.length:Nat):Int),((f.all.length+(frm k b).length:Nat):Int)],((Z.length:Nat):Int),ins dirty ((Z.length:Nat):Int),H')∧Jx (c+1) H' d (On lim (Xn (Z++[⟨f.s,f.ps++[frm k b]⟩])) life):=by
 have hput:XZ [] k b=some (frm k b,0):=by
  have:=Jkn (b:=[]) hk hB hl (by simp)
  simpa using this
 have hget:WM (Xn (Z++[f])) ((Z.length:Nat):Int)=some f:=by rw[Qv];simp
 obtain⟨H1,e1,e2⟩:=Jev h ((Z.length:Nat):Int) (frm k b) (by rw[Wt];omega) hc
 rw[JdT hget _ (by rw[Jhr,Wt];omega),JcK] at e1 e2
 have hset:(Z++[f]).set Z.length ⟨f.s,f.ps++[frm k b]⟩=Z++[⟨f.s,f.ps++[frm k b]⟩]:=by simp
 rw[hset] at e2
 have hall:(⟨f.s,f.ps++[frm k b]⟩:Fl).all.length=f.all.length+(frm k b).length:=by rw[JiP,List.length_append]
 refine⟨H1,?_,e2⟩
 unfold Js
 rw[hput,Option.bind_some]
 simp only
 rw[if_neg (by decide),h0,Option.bind_some,if_neg (by decide),hr,Option.bind_some]
 simp only
 rw[if_pos (by decide),e1,Option.bind_some]
 simp only[JL,Option.bind_some]
 rw[if_neg (by decide),Jal e2,Option.bind_some,Ja4 (f:=⟨f.s,f.ps++[frm k b]⟩) (by rw[Qv];simp),if_pos (by simp[YJ];omega),JbZ _ _ hd,Option.bind_some,hall]
 unfold ins
 by_cases hm:((Z.length:Nat):Int)∈dirty
 ·rw[if_neg (by simp[hm]),Option.bind_some,if_pos hm]
 ·rw[if_pos (by simp[hm]),if_pos (by simp[YJ];omega),Option.bind_some,if_neg hm]
structure KI (c:Nat) (H:AH) (d:MV) (recs:List R) (X:List (List R×Nat)) (ends dirty:List Int):Prop where
 h:Jx c H d (On 131072 (Xn (X.map F)) 0)
 li:LI recs 0 X
 ok:Ok recs
 en:ends=QQ 0 (X.map (·.1))
 dl:dirty.length≤c
 d0:∀x∈dirty,0≤x∧x<(X.length:Int)
 d1:∀(i:Nat) (q:List R×Nat),X[i]? =some q→q.2<q.1.length→(i:Int)∈dirty
theorem JdI (l:List Int) (n x:Int):x∈ins l n↔x∈l∨x=n:=by
 unfold ins
 split
 ·rename_i hm
  exact⟨fun h=> .inl h,fun h=>h.elim id fun e=>by rw[e];exact hm⟩
 ·simp
theorem KI.append {c:Nat} {H:AH} {d:MV} {recs:List R} {X:List (List R×Nat)} {ends dirty:List Int} (g:KI c H d recs X ends dirty) (hc:c≤1000) (hn:recs.length≤60) {k:Int} {b:List Int} (hk:Kin k) (hl:b.length≤2000) (hB:Byt b):
  ∃H' X' e',Js H d ends ((X.length- 1:Nat):Int) dirty k b=some (0,e',((X'.length- 1:Nat):Int),ins dirty ((X'.length- 1:Nat):Int),H')∧KI (c+1) H' d (recs++[(k,b)]) X' e' (ins dirty ((X'.length- 1:Nat):Int)):=by
 obtain⟨X0,q,rfl⟩:∃X0 q,X=X0++[q]:=⟨X.dropLast,X.getLast g.li.ne,(List.dropLast_concat_getLast g.li.ne).symm⟩
 have hX:(X0++[q]).length- 1=(X0.map F).length:=by simp
 have ht:=g.li.tot
 have hf:=JjU g.ok
 have hz:=g.li.files g.ok
 have h:=g.h
 have hq:=g.li.ml q (by simp)
 have hel:ends.length=2*recs.length:=by rw[g.en,Jcr,g.li.al]
 rw[List.map_append] at h
 have h':Jx c H d (On 131072 (Xn (X0.map F++[F q])) 0):=h
 have ho:Ok (recs++[(k,b)]):=JiN g.ok hk hl hB
 have etot:tot (X0.map F++[F q])=(fl recs).length:=by rw[←ht,List.map_append];rfl
 have dl:∀n,(ins dirty n).length≤c+1:=fun n=>by have:=Jfd dirty n;have:=g.dl;omega
 have hen:ends=QQ 0 (X0.map (·.1))++QR X0.length [] q.1:=by
  have e:=Ja0 (X0.map (·.1)) 0 q.1
  rw[g.en,List.map_append,List.map_cons,List.map_nil,e];simp
 rw[hX]
 by_cases hlt:(F q).all.length<4096
 ·obtain⟨H',e1,e2⟩:=Jbc h' (Jbg h') (by omega) hk hB hl (by rw[etot];omega) (ends:=ends) (dirty:=dirty) (by omega) (by have:=g.dl;omega) (JeR h' hlt _ _)
  rw[Jku q hq] at e2
  rw[JcB] at hlt e1
  refine⟨H',X0++[(q.1++[(k,b)],q.2)],_,by rw[show (X0++[(q.1++[(k,b)],q.2)]).length- 1=(X0.map F).length by simp];exact e1,⟨by rw[List.map_append];exact e2,g.li.here hl hlt,ho,?_,dl _,?_,?_⟩⟩
  ·rw[List.map_append,List.map_cons,List.map_nil,Ja0,JgB,hen]
   simp only[List.nil_append,List.length_map,Nat.zero_add,List.append_assoc]
   congr 4
   rw[Jab,List.length_append];simp[fl]
  ·intro y hy
   rcases(JdI _ _ _).1 hy with hy|hy
   ·have:=g.d0 y hy;simp only[List.length_append,List.length_singleton] at this ⊢;omega
   ·rw[hy];refine⟨by omega,?_⟩;simp only[List.length_append,List.length_singleton];omega
  ·intro i y hy hne
   refine(JdI _ _ _).2 ?_
   rcases Jhf (q:=q) hy with w|w
   ·right;rw[w];simp
   ·left;exact g.d1 i y w hne
 ·have hge:=Nat.le_of_not_lt hlt
  obtain⟨H1,r1,r2⟩:=JeG h' hge (by rw[List.length_map];omega) (List.length ends/2) dirty
  obtain⟨H',e1,e2⟩:=Jbc r2 (Jbg h') (by omega) hk hB hl (by rw[Jdc,etot];simp[tot,Fl.all];omega) (ends:=ends) (dirty:=dirty) (by omega) (by have:=g.dl;omega) r1
  rw[JcB] at hge
  have e2':Jx (c+1) H' d (On 131072 (Xn ((X0.map F++[F q])++[F ([(k,b)],0)])) 0):=by rw[←Jkv];exact e2
  have hX2:(X0++[q]++[(([(k,b)],0):List R×Nat)]).length- 1=(X0.map F++[F q]).length:=by simp
  refine⟨H',X0++[q]++[([(k,b)],0)],_,by rw[hX2];exact e1,⟨by rw[List.map_append,List.map_append];exact e2',g.li.next hl hge,ho,?_,dl _,?_,?_⟩⟩
  ·rw[List.map_append,List.map_cons,List.map_nil,Ja0,←g.en]
   simp only[QR,List.nil_append,List.length_map,Nat.zero_add]
   congr 2
   ·simp
   ·simp[fl,Fl.all]
  ·intro y hy
   rcases(JdI _ _ _).1 hy with hy|hy
   ·have:=g.d0 y hy;simp only[List.length_append,List.length_singleton] at this ⊢;omega
   ·rw[hy];refine⟨by omega,?_⟩;simp only[List.length_append,List.length_singleton];omega
  ·intro i y hy hne
   refine(JdI _ _ _).2 ?_
   by_cases hiz:i<(X0++[q]).length
   ·left
    rw[List.getElem?_append_left hiz] at hy;exact g.d1 i y hy hne
   ·right
    have:=(List.getElem?_eq_some_iff.1 hy).1
    simp at this hiz ⊢;omega
theorem JhH {c:Nat} {H:AH} {d:MV} {lim life:Int} {fs:List (Int×Fl)} (h:Jx c H d (On lim fs life)) (s2:Nat) (last:Int) (s4:List Int) (stop:Nat) {f:Fl} (hf:WM (low fs last) last=some f) (hs:stop≤f.all.length):
  ∃H' g,JZ H d s2 last s4 (stop:Int)=some (0,H')∧Jx c H' d (On lim (XN (low fs last) last g) life)∧g.all=f.all.take stop∧(g.ps≠[]→g=f):=by
 obtain⟨k1,k2⟩:=Jcs h
 have hkl:=QN fs
 obtain⟨H1,e1,e2⟩:=Jiu s2 last s4 (stop:Int) (Wb fs).reverse (by simp;simp at k2;omega) (Wb fs).reverse 0 fs H rfl (Jed fs k1) (fun n hn=>(XP fs n).1 (by simpa using hn))
  (fun p hp=>by simpa using (XP fs p.1).2 (List.mem_map.2 ⟨p,hp,rfl⟩)) h
 have hlen:(((Wb fs).reverse.length:Int)- 0).toNat+1=(Wb fs).reverse.length+1:=by omega
 unfold JZ
 rw[Jay h,Option.bind_some]
 simp only[VC,Option.bind_some]
 rw[hlen]
 have e1':JE d s2 last s4 (stop:Int) (Wb fs).reverse ((Wb fs).reverse.length+1) H 0=some (.inl H1):=e1
 rw[e1',Option.bind_some]
 simp only
 rw[Jal e2,Option.bind_some,Ja4 hf]
 by_cases hc:stop<f.all.length
 ·obtain⟨H2,g1,g2⟩:=JkB e2 last (stop:Int)
  rw[Jkk hf stop hs] at g1 g2
  rw[if_pos (by simp;omega),g1,Option.bind_some]
  simp only[JL,Option.bind_some]
  exact⟨H2,_,rfl,g2,by simp[Fl.all],fun hq=>absurd rfl hq⟩
 ·rw[if_neg (by simp;omega)]
  refine⟨H1,f,rfl,?_,by rw[List.take_of_length_le (by omega)],fun _=>rfl⟩
  have:XN (low fs last) last f=low fs last:=by
   unfold XN
   refine(List.map_congr_left fun p hp=> ?_).trans (List.map_id _)
   split
   ·rename_i hq
    have hn:((low fs last).map (·.1)).Nodup:=(List.filter_sublist.map _).nodup k1
    exact XM hn (VL hf) hp hq.symm
   ·rfl
  rw[this];exact e2
theorem Jgp (W:List Fl) (i:Nat):low (Xn W) ((i:Nat):Int)=Xn (W.take (i+1)):=by
 rw[←JlD]
 unfold low
 refine List.filter_congr fun p _=> ?_
 by_cases hp:p.1≤((i:Nat):Int)
 ·simp[hp];omega
 ·simp[hp];omega
theorem KI.keep {c:Nat} {H:AH} {d:MV} {recs:List R} {X:List (List R×Nat)} {ends dirty:List Int} (g:KI c H d recs X ends dirty) (hc:c≤1000) (hn:recs.length≤60) {n:Nat} (hnl:n≤recs.length) {more:List R}:
  ∃H' Z f e' dirty',JR H d ends ((X.length- 1:Nat):Int) dirty (n:Int)=some (0,e',((Z.length:Nat):Int),dirty',H')∧GI (recs.take n++more) n c H' d 0 e' dirty' Z f:=by
 have hel:ends.length=2*recs.length:=by rw[g.en,Jcr,g.li.al]
 have h0:Vb H d=some false:=Jbg g.h
 obtain⟨i,x,j,hx,hj,htake,hfile,hat⟩:∃(i:Nat) (x:List R×Nat) (j:Nat),X[i]? =some x∧j≤x.1.length∧recs.take n=((X.take i).map (·.1)).flatten++x.1.take j∧
   (show Option (Int×Int) from if(decide ((n:Int)>(0:Int)))=true then if 0≤(IntKind.i64.wrap ((n:Int)- (1:Int)))∧(IntKind.i64.wrap ((n:Int)- (1:Int)))<((List.length ends/2:Nat):Int) then some ((ends.getD ((IntKind.i64.wrap ((n:Int)- (1:Int))).toNat*2+0) 0),(ends.getD ((IntKind.i64.wrap ((n:Int)- (1:Int))).toNat*2+1) 0)) else none else some ((0:Int),(0:Int)))=some (((i:Nat):Int),((fl (x.1.take j)).length:Int))∧True:=by
  cases n with
  | zero=>
   obtain⟨q,X',rfl⟩:∃q X',X=q::X':=by
    cases X with
    |nil=>exact absurd rfl g.li.ne
    |cons q X'=>exact⟨q,X',rfl⟩
   exact⟨0,q,0,rfl,Nat.zero_le _,by simp,by rw[if_neg (by simp)];simp[fl],trivial⟩
  | succ m=>
   obtain⟨i,y,j,e1,e2,e3,e4,e5⟩:=JkX (X.map (·.1)) 0 m (by rw[g.li.al];omega)
   rw[List.getElem?_map] at e1
   cases hxi:X[i]? with
   |none=>rw[hxi] at e1;cases e1
   | some x=>
    rw[hxi] at e1
    obtain rfl:x.1=y:=by simpa using e1
    have hw:IntKind.i64.wrap (((m+1:Nat):Int)- 1)=(m:Int):=by rw[Jaw _ (by omega) (by omega)];omega
    refine⟨i,x,j+1,hxi,e2,?_,?_,trivial⟩
    ·have hsp:recs=((X.take i).map (·.1)).flatten++(x.1++((X.drop (i+1)).map (·.1)).flatten):=by
      have hi:i<X.length:=(List.getElem?_eq_some_iff.1 hxi).1
      have hxe:X[i]=x:=by rw[List.getElem?_eq_getElem hi] at hxi;simpa using hxi
      have e:X=X.take i++x::X.drop (i+1):=by rw[←hxe,←List.drop_eq_getElem_cons hi,List.take_append_drop]
      rw[←g.li.al]
      conv=>lhs;rw[e]
      simp
     have e3':m=((X.take i).map (·.1)).flatten.length+j:=by rw[e3,List.map_take]
     rw[hsp,e3',Nat.add_assoc,List.take_length_add_append,List.take_append_of_le_length (by omega)]
    ·rw[if_pos (by simp),hw,if_pos ⟨by omega,by omega⟩,Int.toNat_natCast,Nat.add_zero,g.en,e4,e5]
     simp
 have hi:i<X.length:=(List.getElem?_eq_some_iff.1 hx).1
 have hfx:fl x.1=fl (x.1.take j)++fl (x.1.drop j):=by rw[←Jab,List.take_append_drop]
 have hge:WM (low (Xn (X.map F)) ((i:Nat):Int)) ((i:Nat):Int)=some (F x):=by
  rw[Jgp,Qv,List.getElem?_take_of_lt (by omega),List.getElem?_map,hx];rfl
 obtain⟨H',f,r1,r2,r3,r4⟩:=JhH g.h (List.length ends/2) ((i:Nat):Int) dirty (fl (x.1.take j)).length hge (by rw[JcB,hfx,List.length_append];omega)
 have hset:((X.map F).take (i+1)).set i f=(X.take i).map F++[f]:=by
  rw[List.take_succ_eq_append_getElem (by simpa using hi),List.map_take]
  rw[List.set_append_right _ _ (by simp;omega)]
  have:i- (List.take i (List.map F X)).length=0:=by simp;omega
  rw[this];rfl
 rw[Jgp,JcK,hset] at r2
 have hfa:f.all=fl (x.1.take j):=by rw[r3,JcB,hfx,List.take_left]
 have hlz:((X.take i).map F).length=i:=by simp;omega
 have hsm:=g.li.sm x (List.mem_of_getElem? hx)
 refine⟨H',(X.take i).map F,f,ends.take (n*2),dirty.filter fun y=> !decide (((i:Nat):Int)<y),?_,⟨r2,?_,?_,?_,?_,?_,?_⟩⟩
 ·unfold JR
  rw[h0,Option.bind_some,if_neg (by decide),if_neg (by simp),if_neg (by simp;omega)]
  refine(congrArg (fun z=>Option.bind z _) hfile).trans ?_
  rw[Option.bind_some]
  simp only
  rw[r1,Option.bind_some]
  simp only
  have hcl:Wd (ends.take (((n:Nat):Int).toNat*2))=some (ends.take (n*2)):=by
   unfold Wd
   rw[Int.toNat_natCast,if_pos (by simp[YJ];omega)]
  rw[if_neg (by decide),if_pos ⟨by omega,by omega⟩,hcl,Option.bind_some,hlz]
  rfl
 ·have e:(recs.take n++more).take n=recs.take n:=by rw[List.take_append_of_le_length (by rw[List.length_take];omega),List.take_take,Nat.min_self]
  rw[e]
  refine⟨(X.take i).map (·.1),x.1.take j,by rw[htake];simp,?_,hfa,fun q hq=> ?_,fun q hq=> ?_⟩
  ·rw[List.map_map,List.map_map];exact List.map_congr_left fun q _=>JcB q
  ·obtain⟨y,hy,rfl⟩:=List.mem_map.1 hq
   obtain⟨k,hk⟩:=List.getElem?_of_mem hy
   have hki:k<i:=by have:=(List.getElem?_eq_some_iff.1 hk).1;rw[List.length_take] at this;omega
   rw[List.getElem?_take_of_lt hki] at hk
   rw[JcB]
   exact g.li.big k y hk (by omega)
  ·rcases List.mem_append.1 hq with hq|hq
   ·obtain⟨y,hy,rfl⟩:=List.mem_map.1 hq
    rw[JcB];exact g.li.sm y (List.mem_of_mem_take hy)
   ·rw[List.mem_singleton.1 hq,hfa]
    rw[hfx,List.length_append] at hsm
    omega
 ·rw[List.length_append,List.length_take];omega
 ·rw[List.length_take];omega
 ·exact Nat.le_trans (List.length_filter_le _ _) g.dl
 ·intro y hy
  obtain⟨y1,y2⟩:=List.mem_filter.1 hy
  have:=g.d0 y y1
  simp at y2
  rw[List.length_append,hlz,List.length_singleton]
  omega
 ·intro k q hq hne
  have mem:∀q',X[k]? =some q'→(F q').ps≠[]→(k:Int)∈dirty:=fun q' hq' hne'=>g.d1 k q' hq' (by
   rcases Nat.lt_or_ge q'.2 q'.1.length with w|w
   ·exact w
   ·exfalso
    apply hne'
    unfold F
    simp only
    rw[List.drop_eq_nil_of_le w];rfl)
  by_cases hki:k<i
  ·refine List.mem_filter.2 ⟨?_,by simp;omega⟩
   rw[List.getElem?_append_left (by rw[hlz];exact hki),List.getElem?_map,List.getElem?_take_of_lt hki] at hq
   cases hxk:X[k]? with
   |none=>rw[hxk] at hq;cases hq
   |some q'=>
    rw[hxk] at hq
    obtain rfl:F q'=q:=by simpa using hq
    exact mem q' hxk hne
  ·have hlt:=(List.getElem?_eq_some_iff.1 hq).1
   rw[List.length_append,hlz,List.length_singleton] at hlt
   obtain rfl:k=i:=by omega
   refine List.mem_filter.2 ⟨?_,by simp⟩
   rw[List.getElem?_append_right (by rw[hlz];omega),hlz,Nat.sub_self] at hq
   obtain rfl:f=q:=by simpa using hq
   exact mem x hx (by rw[←r4 hne];exact hne)
theorem Jke (l:List R) (hb:∀r∈l,Byt r.2) (hn:l.length≤1000) (n:Int) (more:List R):∀(j i:Nat),i+j=l.length→
  Vo l n more (j+1) (i:Int)=some (.inr true)∨(Ok (l.drop i)∧Vo l n more (j+1) (i:Int)=some (.inl ())):=by
 intro j
 induction j with
 |zero=>
  intro i hi
  refine .inr ⟨?_,?_⟩
  ·rw[List.drop_eq_nil_of_le (by omega)];intro r hr;cases hr
  ·rw[Vo,if_neg (by simp;omega)]
 | succ j ih=>
  intro i hi
  have hi':i<l.length:=by omega
  have eg:l.getD (i:Int).toNat (0,[])=l[i]:=by simp[List.getD,hi']
  rw[Vo,if_pos (by simp;omega),if_pos (by omega),eg]
  rcases Jd9 l[i].1 l[i].2 with⟨c,hc,e⟩|⟨hk,hl,e⟩
  ·left;rw[e,Option.bind_some,if_pos hc]
  ·rw[e,Option.bind_some,if_neg (by decide),Jaw ((i:Int)+1) (by omega) (by omega)]
   rcases ih (i+1) (by omega) with g|⟨g1,g2⟩
   ·left;exact g
   ·right
    rw[List.drop_eq_getElem_cons hi']
    refine⟨fun r hr=> ?_,g2⟩
    rcases List.mem_cons.1 hr with rfl|hr
    ·exact⟨hk,hl,hb _ (List.getElem_mem _)⟩
    ·exact g1 r hr
theorem JjY (l:List R) (n:Int) (more:List R) (hb:∀r∈more,Byt r.2) (hn:more.length≤1000):∀(j i:Nat),i+j=more.length→
  Vl l n more (j+1) (i:Int)=some (.inr true)∨(Ok (more.drop i)∧Vl l n more (j+1) (i:Int)=some (.inl ())):=by
 intro j
 induction j with
 |zero=>
  intro i hi
  refine .inr ⟨?_,?_⟩
  ·rw[List.drop_eq_nil_of_le (by omega)];intro r hr;cases hr
  ·rw[Vl,if_neg (by simp;omega)]
 | succ j ih=>
  intro i hi
  have hi':i<more.length:=by omega
  have eg:more.getD (i:Int).toNat (0,[])=more[i]:=by simp[List.getD,hi']
  rw[Vl,if_pos (by simp;omega),if_pos (by omega),eg]
  rcases Jd9 more[i].1 more[i].2 with⟨c,hc,e⟩|⟨hk,hl,e⟩
  ·left;rw[e,Option.bind_some,if_pos hc]
  ·rw[e,Option.bind_some,if_neg (by decide),Jaw ((i:Int)+1) (by omega) (by omega)]
   rcases ih (i+1) (by omega) with g|⟨g1,g2⟩
   ·left;exact g
   ·right
    rw[List.drop_eq_getElem_cons hi']
    refine⟨fun r hr=> ?_,g2⟩
    rcases List.mem_cons.1 hr with rfl|hr
    ·exact⟨hk,hl,hb _ (List.getElem_mem _)⟩
    ·exact g1 r hr
theorem Jjm {l:List R} (ho:Ok l) (hn:l.length≤30) (n:Int) (more:List R) (d:MV):∀(j i:Nat) (H:AH) (X:List (List R×Nat)) (ends dirty:List Int),i+j=l.length→KI i H d (l.take i) X ends dirty→
  ∃H' X' ends' dirty',VF l n more d d (j+1) H ends ((X.length- 1:Nat):Int) dirty (i:Int)=some (.inl (H',ends',((X'.length- 1:Nat):Int),dirty'))∧KI l.length H' d l X' ends' dirty':=by
 intro j
 induction j with
 |zero=>
  intro i H X ends dirty hi g
  obtain rfl:i=l.length:=by omega
  rw[List.take_length] at g
  exact⟨H,X,ends,dirty,by rw[VF,if_neg (by simp)],g⟩
 |succ j ih=>
  intro i H X ends dirty hi g
  have hi':i<l.length:=by omega
  have eg:l.getD (i:Int).toNat (0,[])=l[i]:=by simp[List.getD,hi']
  obtain⟨hk,hl,hB⟩:=ho _ (List.getElem_mem hi')
  obtain⟨H1,X1,e1,r,g1⟩:=g.append (by omega) (by rw[List.length_take];omega) hk hl hB
  have et:l.take i++[(l[i].1,l[i].2)]=l.take (i+1):=(List.take_succ_eq_append_getElem hi').symm
  rw[et] at g1
  obtain⟨H2,X2,e2,d2,r2,g2⟩:=ih (i+1) H1 X1 e1 _ (by omega) g1
  refine⟨H2,X2,e2,d2,?_,g2⟩
  rw[VF,if_pos (by simp;omega),if_pos (by omega),eg,r,Option.bind_some]
  simp only
  rw[if_neg (by decide),Jaw ((i:Int)+1) (by omega) (by omega)]
  exact r2
theorem Jki (l:List R) (n:Int) {more:List R} {pre:List R} (ho:Ok (pre++more)) (hn:(pre++more).length≤60) (d:MV):∀(j i c:Nat) (H:AH) (Z:List Fl) (f:Fl) (ends dirty:List Int),i+j=more.length→c≤500+i→GI (pre++more) (pre.length+i) c H d 0 ends dirty Z f→
  ∃H' Z' f' c' ends' dirty',VD l n more d d (j+1) H ends ((Z.length:Nat):Int) dirty (i:Int)=some (.inl (H',ends',((Z'.length:Nat):Int),dirty'))∧GI (pre++more) (pre++more).length c' H' d 0 ends' dirty' Z' f':=by
 intro j
 induction j with
 |zero=>
  intro i c H Z f ends dirty hi hc g
  refine⟨H,Z,f,c,ends,dirty,by rw[VD,if_neg (by simp;omega)],?_⟩
  have:(pre++more).length=pre.length+i:=by rw[List.length_append];omega
  rw[this];exact g
 | succ j ih=>
  intro i c H Z f ends dirty hi hc g
  have hi':i<more.length:=by omega
  have eg:more.getD (i:Int).toNat (0,[])=more[i]:=by simp[List.getD,hi']
  have hlen:(pre++more).length=pre.length+more.length:=List.length_append
  have hat:pre.length+i<(pre++more).length:=by omega
  have egt:(pre++more)[pre.length+i]=more[i]:=by
   rw[List.getElem_append_right (by omega)]
   simp
  obtain⟨H1,x,Z1,f1,r,g1,_⟩:=g.append ho hn (by omega) hat
  rw[egt] at r
  obtain⟨H2,Z2,f2,c2,e2,d2,r2,g2⟩:=ih (i+1) (c+1) H1 Z1 f1 (ends++x) _ (by omega) (by omega) g1
  refine⟨H2,Z2,f2,c2,e2,d2,?_,g2⟩
  rw[VD,if_pos (by simp;omega),if_pos (by omega),eg,r,Option.bind_some]
  simp only
  rw[if_neg (by decide),Jaw ((i:Int)+1) (by omega) (by omega)]
  exact r2
theorem StoreKeeps:∀(a0:List (Int×List Int)) (a1:Int) (a2:List (Int×List Int)),(∀r∈a0,(Lit.int .i64 r.1).wf=true∧∀x∈r.2,(Lit.int .u8 x).wf=true)→(Lit.int .i64 a1).wf=true→(∀r∈a2,(Lit.int .i64 r.1).wf=true∧∀x∈r.2,(Lit.int .u8 x).wf=true)→WU a0 a1 a2=some true:=by
 intro l n more hwf _ hwf2
 unfold WU
 by_cases hn:l.length≤30
 case neg=>rw[if_pos (by simp;omega)]
 rw[if_neg (by simp;omega)]
 by_cases hm:more.length≤10
 case neg=>rw[if_pos (by simp;omega)]
 rw[if_neg (by simp;omega)]
 have ek:((l.length:Int)- 0).toNat+1=l.length+1:=by omega
 have ek2:((more.length:Int)- 0).toNat+1=more.length+1:=by omega
 rw[ek,ek2]
 rcases Jke l (fun r hr=>(hwf r hr).2) (by omega) n more l.length 0 (by omega) with g|⟨ho,g⟩
 ·refine(congrArg (fun z=>Option.bind z _) g).trans ?_
  rfl
 refine(congrArg (fun z=>Option.bind z _) g).trans ?_
 rw[Option.bind_some]
 simp only
 rcases JjY l n more (fun r hr=>(hwf2 r hr).2) (by omega) more.length 0 (by omega) with g|⟨ho2,g⟩
 ·refine(congrArg (fun z=>Option.bind z _) g).trans ?_
  rfl
 refine(congrArg (fun z=>Option.bind z _) g).trans ?_
 rw[Option.bind_some]
 simp only
 rw[List.drop_zero] at ho ho2
 obtain⟨H,e0,h0⟩:=Jkq 131072 (by decide) (by decide)
 obtain⟨H1,e1,h1⟩:=JdV (show Jx 0 H (.ptr 1 0) (On 131072 [] 0) from h0)
 obtain⟨hN,hP⟩:=Jk6 h1
 rw[e0,Option.bind_some]
 simp only
 rw[e1,Option.bind_some]
 simp only
 rw[if_neg (by decide),if_neg (by decide),if_pos (.inr hP),if_neg (by decide)]
 obtain⟨H2,X,ends,dirty,e2,k2⟩:=Jjm ho hn n more (.ptr 1 0) l.length 0 H1 [([],0)] [] [] (by omega) ⟨by simpa[F,fl] using h1,⟨rfl,by simp,⟨fun h=>Nat.le_refl _,Nat.le_refl _⟩,by simp,fun i x hx hlt=>by simp at hlt,by simp[fl]⟩,(fun r hr=>by cases hr),rfl,by simp,(fun x hx=>by cases hx),fun i q hq hne=>by
  match i with
  |0=>simp at hq;subst hq;simp at hne
  |i+1=>simp at hq⟩
 refine(congrArg (fun z=>Option.bind z _) e2).trans ?_
 rw[Option.bind_some]
 simp only
 have hel:ends.length=2*l.length:=by rw[k2.en,Jcr,k2.li.al]
 obtain⟨u1,t,ht,ht2⟩:=Jm1 n ((l.length:Int)+1) (by omega) (by omega)
 have hoff:Vb H2 (.ptr 1 0)=some false:=Jbg k2.h
 have hk1:JR H2 (.ptr 1 0) ends ((X.length- 1:Nat):Int) dirty (-1:Int)=some (1,ends,((X.length- 1:Nat):Int),dirty,H2):=by
  unfold JR
  rw[hoff,Option.bind_some,if_neg (by decide),if_pos (by decide)]
 have hk2:JR H2 (.ptr 1 0) ends ((X.length- 1:Nat):Int) dirty (IntKind.i64.wrap ((l.length:Int)+1))=some (1,ends,((X.length- 1:Nat):Int),dirty,H2):=by
  unfold JR
  rw[hoff,Option.bind_some,Jaw _ (by omega) (by omega),if_neg (by decide),if_neg (by simp;omega),if_pos (by simp;omega)]
 have htl:t≤l.length:=by omega
 obtain⟨H3,Z3,f3,en3,d3,e3,g3⟩:=k2.keep (by omega) (by omega) htl (more:=more)
 have hpl:(l.take t).length=t:=by rw[List.length_take];omega
 have hokl:Ok (l.take t++more):=fun r hr=>by
  rcases List.mem_append.1 hr with hr|hr
  ·exact ho r (List.mem_of_mem_take hr)
  ·exact ho2 r hr
 have hL:(l.take t++more).length=t+more.length:=by rw[List.length_append,hpl]
 rw[if_pos u1,hk1,Option.bind_some]
 simp only
 rw[if_neg (by decide),hk2,Option.bind_some]
 simp only
 rw[if_neg (by decide)]
 simp only[VG,Option.bind_some]
 rw[if_neg (by rw[hel];simp),ht,e3,Option.bind_some]
 simp only
 rw[if_neg (by decide),if_neg (by rw[g3.el];simp)]
 obtain⟨H4,Z4,f4,c4,en4,d4,e4,g4⟩:=Jki l n (pre:=l.take t) (more:=more) hokl (by omega) (.ptr 1 0) more.length 0 l.length H3 Z3 f3 en3 d3 (by omega) (by omega) (by rw[hpl];exact g3)
 refine(congrArg (fun z=>Option.bind z _) e4).trans ?_
 rw[Option.bind_some]
 simp only
 obtain⟨H5,Z5,f5,e5,g5,hp5⟩:=g4.sync (List.length en4/2)
 have hmap:(Z5++[f5]).map Fl.lose=Z5++[Fl.lose f5]:=by
  rw[List.map_append]
  congr 1
  exact(List.map_congr_left fun q hq=>Jic (hp5 q (List.mem_append_left _ hq))).trans (List.map_id _)
 obtain⟨H6,H7,H8,life',en8,Z8,f8,e6,e7,e8,_,_⟩:=g5.open hokl (by omega) g5.h g5.hh hmap (C:=[]) (by rw[Jic (hp5 f5 (by simp))];simp) Byt.nil (by decide) Jgf
 rw[List.take_length] at e8
 have hsame:∀y:List R,Ok y→y.length≤100→Ya y y=some true:=fun y hy hyl=>Jhq y (by omega) fun r hr=>by have:=(hy r hr).2.1;omega
 rw[e5,Option.bind_some]
 simp only
 rw[if_neg (by decide),e6,Option.bind_some,e7,Option.bind_some,e8,Option.bind_some]
 simp only
 have hw:IntKind.i64.wrap ((t:Int)+(more.length:Int))=((t+more.length:Nat):Int):=by rw[Jaw _ (by omega) (by omega)];omega
 have ht1:(l.take t++more).take ((t:Int).toNat)=l.take t:=by rw[Int.toNat_natCast,List.take_append_of_le_length (by omega),List.take_take,Nat.min_self]
 have ht2':((l.take t++more).take (((l.take t++more).length:Int).toNat)).drop ((t:Int).toNat)=more:=by
  simp only[Int.toNat_natCast,List.take_length]
  have:=List.drop_left (l₁:=l.take t) (l₂:=more)
  rwa [hpl] at this
 rw[if_pos (by decide),hL,hw,if_pos (by simp),if_pos ⟨by omega,by omega⟩,if_pos ⟨by omega,by omega⟩,ht1,Int.toNat_natCast,hsame _ (fun r hr=>ho r (List.mem_of_mem_take hr)) (by omega),Option.bind_some,if_pos rfl,if_pos ⟨by omega,by omega,by omega⟩]
 rw[hL] at ht2'
 rw[Int.toNat_natCast] at ht2'
 rw[ht2',hsame _ ho2 (by omega),Option.bind_some,if_pos rfl,Jjt]
 rfl
end Go.St

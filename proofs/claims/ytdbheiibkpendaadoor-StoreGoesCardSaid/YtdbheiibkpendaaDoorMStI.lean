/- What has no room is refused; StoreFull. -/
import Derived.Test.YtdbheiibkpendaaDoorMStA
namespace Go.St
open Go Go.Gw Go.Dk Go.Fr Go.Proofs.Se.D
set_option linter.unusedSimpArgs false
set_option linter.unusedVariables false
end Go.St
/- Over and over: what was synced is told; StoreGoes. -/
namespace Go.St
open Go Go.Gw Go.Dk Go.Fr Go.Proofs.Se.D
set_option linter.unusedSimpArgs false
set_option linter.unusedVariables false
theorem Jib (f:Fl):Fl.lose (Fl.lose f)=Fl.lose f:=by simp[Fl.lose]
theorem JeV {f:Fl} (h:f.ps=[]):Fl.lose f=f:=by
 obtain⟨s,ps⟩:=f
 simp only at h;subst h
 simp[Fl.lose]
theorem Jfj:∀(ns:List Int) (k:Nat) (fs:List (Int×Fl)),Xn [] (-1) 0 ns k fs=fs.map fun p=>if p.1∈ns then(p.1,Fl.lose p.2) else p:=by
 intro ns
 induction ns with
 |nil=>intro k fs;simp[Xn]
 | cons n ns ih=>
  intro k fs
  rw[Xn,ih,List.map_map]
  refine List.map_congr_left fun p _=> ?_
  simp only[Function.comp]
  by_cases h:p.1=n
  ·rw[if_pos h,JcO]
   by_cases h2:n∈ns
   ·simp[h,h2,Jib]
   ·simp[h,h2]
  ·rw[if_neg h]
   simp[h]
theorem JiN (g:Fl→Fl) (Z:List Fl):∀n,(WA n Z).map (fun p=>(p.1,g p.2))=WA n (Z.map g):=by
 induction Z with
 |nil=>intro n;rfl
 |cons f r ih=>intro n;simp only[WA,List.map_cons,ih]
theorem Jg6 (Z:List Fl):Xn [] (-1) 0 (Wo (Yy Z)) 0 (Yy Z)=Yy (Z.map Fl.lose):=by
 rw[Jfj]
 refine Eq.trans ?_ (JiN Fl.lose Z 0)
 refine List.map_congr_left fun p hp=> ?_
 rw[if_pos ((Qj _ _).2 (List.mem_map.2 ⟨p,hp,rfl⟩))]
structure GI (l:List R) (at' c:Nat) (H:AH) (d:MV) (life:Int) (ends dirty:List Int) (Z:List Fl) (f:Fl):Prop where
 h:JF c H d (On 131072 (Yy (Z++[f])) life)
 hh:JeD (l.take at') Z f
 al:at'≤l.length
 el:ends.length=2*at'
 dl:dirty.length≤c
 d0:∀x∈dirty,0≤x∧x<((Z++[f]).length:Int)
 d1:∀(i:Nat) (g:Fl),(Z++[f])[i]?=some g→g.ps≠[]→(i:Int)∈dirty
theorem GI.append {l:List R} {at' c:Nat} {H:AH} {d:MV} {life:Int} {ends dirty:List Int} {Z:List Fl} {f:Fl} (g:GI l at' c H d life ends dirty Z f) (ho:Ok l) (hn:l.length≤30) (hc:c≤1000) (hi:at'<l.length):
  ∃H' x Z' f',Jn H d ends ((Z.length:Nat):Int) dirty l[at'].1 l[at'].2=some (0,ends++x,((Z'.length:Nat):Int),ins dirty ((Z'.length:Nat):Int),H')∧
   GI l (at'+1) (c+1) H' d life (ends++x) (ins dirty ((Z'.length:Nat):Int)) Z' f'∧Put (frm l[at'].1 l[at'].2) Z f Z' f':=by
 have hr:=ho _ (List.getElem_mem hi)
 obtain⟨H',x,Z',f',e,lx,h',hp,hh',_⟩:=JeT g.h (by omega) g.hh (fun r hr=>ho r (List.mem_of_mem_take hr)) (by rw[List.length_take];omega) hr.1 hr.2.2 hr.2.1 (ends:=ends) (dirty:=dirty) (by have:=g.el;omega) (by have:=g.dl;omega)
 rw[←Jed hi] at hh'
 have hmem:∀x,x∈ins dirty ((Z'.length:Nat):Int)↔x∈dirty∨x=((Z'.length:Nat):Int):=by
  intro x;unfold ins
  split
  ·rename_i hm
   exact⟨fun h=> .inl h,fun h=>h.elim id fun e=>by rw[e];exact hm⟩
  ·simp
 refine⟨H',x,Z',f',e,⟨h',hh',hi,by simp[g.el,lx];omega,by have:=Jho dirty ((Z'.length:Nat):Int);have:=g.dl;omega,fun y hy=> ?_,fun i q hq hne=> ?_⟩,hp⟩
 ·have hlen:(Z++[f]).length≤(Z'++[f']).length:=by cases hp<;>simp
  rcases(hmem y).1 hy with hy|hy
  ·have:=g.d0 y hy;omega
  ·subst hy;simp only[List.length_append,List.length_singleton];omega
 ·refine(hmem _).2 ?_
  cases hp with
  | here hf=>
   by_cases hiz:i<Z.length
   ·left
    refine g.d1 i q ?_ hne
    rw[List.getElem?_append_left hiz] at hq ⊢;exact hq
   ·right
    have:i<(Z++[(⟨f.s,f.ps++[frm l[at'].1 l[at'].2]⟩:Fl)]).length:=(List.getElem?_eq_some_iff.1 hq).1
    simp at this;omega
  | next hf=>
   by_cases hiz:i<(Z++[f]).length
   ·left
    refine g.d1 i q ?_ hne
    rw[List.getElem?_append_left hiz] at hq;exact hq
   ·right
    have:i<(Z++[f]++[(⟨[],[frm l[at'].1 l[at'].2]⟩:Fl)]).length:=(List.getElem?_eq_some_iff.1 hq).1
    simp at this hiz ⊢;omega
theorem Je6 {rs:List R} {Z:List Fl} {f:Fl} (h:JeD rs Z f):JeD rs (Z.map Fl.settle) f.settle:=by
 obtain⟨P,p,e1,e2,e3,e4,e5⟩:=h
 refine⟨P,p,e1,?_,by rw[YF,e3],fun g hg=> ?_,fun g hg=> ?_⟩
 ·rw[List.map_map,←e2];exact List.map_congr_left fun g _=>YF g
 ·obtain⟨g',hg',rfl⟩:=List.mem_map.1 hg
  rw[YF];exact e4 g' hg'
 ·rcases List.mem_append.1 hg with hg|hg
  ·obtain⟨g',hg',rfl⟩:=List.mem_map.1 hg
   rw[YF];exact e5 g' (List.mem_append_left _ hg')
  ·rw[List.mem_singleton.1 hg,YF];exact e5 f (by simp)
theorem GI.sync {l:List R} {at' c:Nat} {H:AH} {d:MV} {life:Int} {ends dirty:List Int} {Z:List Fl} {f:Fl} (g:GI l at' c H d life ends dirty Z f) (n:Nat):
  ∃H' Z' f',JS H d n ((Z.length:Nat):Int) dirty=some (0,((Z'.length:Nat):Int),[],H')∧GI l at' c H' d life ends [] Z' f'∧∀q∈Z'++[f'],q.ps=[]:=by
 obtain⟨H',e,h'⟩:=Jdn g.h n ((Z.length:Nat):Int) g.d0 g.d1
 have hs:∀q∈Z.map Fl.settle++[f.settle],q.ps=[]:=fun q hq=>by
  rcases List.mem_append.1 hq with hq|hq
  ·obtain⟨q',_,rfl⟩:=List.mem_map.1 hq;rfl
  ·rw[List.mem_singleton.1 hq];rfl
 refine⟨H',Z.map Fl.settle,f.settle,by rw[List.length_map];exact e,⟨by simpa using h',Je6 g.hh,g.al,g.el,by simp,(fun x hx=>by cases hx),fun i q hq hne=>absurd (hs q (List.mem_of_getElem? hq)) hne⟩,hs⟩
theorem JjH {rs:List R} {Z Z':List Fl} {f f':Fl} (h:JeD rs Z f) (hs:∀q∈Z++[f],q.ps=[]) {b:List Int} (hp:Put b Z f Z' f'):∃f0,JeD rs Z' f0∧(Z'++[f']).map Fl.lose=Z'++[Fl.lose f']∧(Fl.lose f').all=f0.all++List.replicate b.length 0:=by
 have hmap:∀Y:List Fl,(∀q∈Y,q.ps=[])→Y.map Fl.lose=Y:=fun Y hY=>(List.map_congr_left fun q hq=>JeV (hY q hq)).trans (List.map_id _)
 cases hp with
 |here hf=>
  refine⟨f,h,by rw[List.map_append,hmap Z fun q hq=>hs q (List.mem_append_left _ hq)];rfl,?_⟩
  have:=hs f (by simp)
  simp[Fl.lose,Fl.all,this]
 | next hf=>
  refine⟨⟨[],[]⟩,?_,by rw[List.map_append,hmap _ hs];rfl,by simp[Fl.lose,Fl.all]⟩
  obtain⟨P,p,e1,e2,e3,e4,e5⟩:=h
  refine⟨P++[p],[],by rw[←e1];simp,by simp[e2,e3],rfl,fun g hg=> ?_,fun g hg=> ?_⟩
  ·rcases List.mem_append.1 hg with hg|hg
   ·exact e4 g hg
   ·rw[List.mem_singleton.1 hg];exact hf
  ·rcases List.mem_append.1 hg with hg|hg
   ·exact e5 g hg
   ·rw[List.mem_singleton.1 hg];simp[Fl.all]
theorem GI.open {l:List R} {at' c:Nat} {H:AH} {d:MV} {life:Int} {ends:List Int} {Z:List Fl} {f:Fl} (g:GI l at' c H d life ends [] Z f) (ho:Ok l) (hn:l.length≤30) {Z':List Fl} {f':Fl} {c':Nat} {H':AH} (h':JF c' H' d (On 131072 (Yy (Z'++[f'])) life))
  {f0:Fl} {C:List Int} (hh:JeD (l.take at') Z' f0) (hmap:(Z'++[f']).map Fl.lose=Z'++[Fl.lose f']) (hall:(Fl.lose f').all=f0.all++C) (hB:Byt C) (hC:C.length≤5000) (hst:∀p,Stop p C):
  ∃H1 H2 H3 life' e Z'' f'',JL H' d [] (-1) 0=some H1∧JT H1 d=some H2∧Vc H2 d=some (d,e,((Z''.length:Nat):Int),[],l.take at',0,H3)∧GI l at' c' H3 d life' e [] Z'' f''∧(∀q∈Z''++[f''],q.ps=[]):=by
 obtain⟨H1,H2,life',e1,e2,h2⟩:=JbI h' [] (-1) 0
 rw[Jg6,hmap] at h2
 have hok:Ok (l.take at'):=fun r hr=>ho r (List.mem_of_mem_take hr)
 have hlen:(l.take at').length=at':=by rw[List.length_take];have:=g.al;omega
 obtain⟨H3,e,Z'',f'',r,h3,hh3,lz,le,hs⟩:=JgS h2 hh hok (by rw[hlen];have:=g.al;omega) (Fl.lose f') hall hB hC hst (Jh8 _ _ (by simp)) (fun _=>JfI _ _ (by simp))
 refine⟨H1,H2,H3,life',e,Z'',f'',e1,e2,by rw[lz];exact r,⟨h3,hh3,g.al,by rw[le,hlen],by simp,(fun x hx=>by cases hx),fun i q hq hne=>absurd (hs q (List.mem_of_getElem? hq)) hne⟩,hs⟩
theorem Jkk (l:List R) (hb:∀r∈l,Byt r.2) (hn:l.length≤1000) (parts:List Int):∀(j i:Nat),i+j=l.length→
  Vr l parts (j+1) (i:Int)=some (.inr true)∨(Ok (l.drop i)∧Vr l parts (j+1) (i:Int)=some (.inl ())):=by
 intro j
 induction j with
 |zero=>
  intro i hi
  refine .inr ⟨?_,?_⟩
  ·rw[List.drop_eq_nil_of_le (by omega)];intro r hr;cases hr
  ·rw[Vr,if_neg (by simp;omega)]
 | succ j ih=>
  intro i hi
  have hi':i<l.length:=by omega
  have eg:l.getD (i:Int).toNat (0,[])=l[i]:=by simp[List.getD,hi']
  rw[Vr,if_pos (by simp;omega),if_pos (by omega),eg]
  rcases JhW l[i].1 l[i].2 with⟨c,hc,e⟩|⟨hk,hl,e⟩
  ·left;rw[e,Option.bind_some,if_pos hc]
  ·rw[e,Option.bind_some,if_neg (by decide),JaY ((i:Int)+1) (by omega) (by omega)]
   rcases ih (i+1) (by omega) with g|⟨g1,g2⟩
   ·left;exact g
   ·right
    rw[List.drop_eq_getElem_cons hi']
    refine⟨fun r hr=> ?_,g2⟩
    rcases List.mem_cons.1 hr with rfl|hr
    ·exact⟨hk,hl,hb _ (List.getElem_mem _)⟩
    ·exact g1 r hr
theorem Jk7 {l:List R} (ho:Ok l) (hn:l.length≤30) (parts:List Int) (d:MV) (life:Int) (i28:Int) {n:Nat} (hn4:n<4) (hq:IntKind.i64.wrap ((IntKind.u64.wrap (parts.getD i28.toNat 0)).tmod (4:Int))=(n:Int)):∀(j k at' c:Nat) (H:AH) (ends dirty:List Int) (Z:List Fl) (f:Fl),k+j=n→c≤500+k→GI l at' c H d life ends dirty Z f→
  ∃H' ends' dirty' Z' f' at2 c',VF l parts d d i28 (j+1) H ends ((Z.length:Nat):Int) dirty (l.take at') (at':Int) (k:Int)=some (.inl (H',ends',((Z'.length:Nat):Int),dirty',l.take at2,(at2:Int)))∧GI l at2 c' H' d life ends' dirty' Z' f'∧c'≤c+(at2-at')∧at'≤at2:=by
 intro j
 induction j with
 |zero=>
  intro k at' c H ends dirty Z f hk hc g
  refine⟨H,ends,dirty,Z,f,at',c,?_,g,by omega,Nat.le_refl _⟩
  rw[VF,hq,if_neg (by simp;omega)]
 | succ j ih=>
  intro k at' c H ends dirty Z f hk hc g
  rw[VF,hq,if_pos (by simp;omega)]
  by_cases hat:at'<l.length
  ·have eg:l.getD (at':Int).toNat (0,[])=l[at']:=by simp[List.getD,hat]
   obtain⟨H1,x,Z1,f1,e1,g1,_⟩:=g.append ho hn (by omega) hat
   obtain⟨H2,ends2,dirty2,Z2,f2,at2,c2,e2,g2,hc2,ha2⟩:=ih (k+1) (at'+1) (c+1) H1 (ends++x) (ins dirty ((Z1.length:Nat):Int)) Z1 f1 (by omega) (by omega) g1
   refine⟨H2,ends2,dirty2,Z2,f2,at2,c2,?_,g2,by omega,by omega⟩
   have ht:(l.take (at'+1)).length≤Qd:=Nat.le_trans (by rw[List.length_take];omega) (show 30≤Qd by decide)
   rw[if_pos (by simp;omega),if_pos (by omega),eg,e1,Option.bind_some]
   simp only
   rw[if_neg (by decide),←Jed hat,if_pos ht,JaY ((at':Int)+1) (by omega) (by omega),JaY ((k:Int)+1) (by omega) (by omega)]
   exact e2
  ·refine⟨H,ends,dirty,Z,f,at',c,?_,g,by omega,Nat.le_refl _⟩
   rw[if_neg (by simp;omega)]
theorem JkW {l:List R} (ho:Ok l) (hn:l.length≤30) (parts:List Int) (hp:parts.length≤30) (d:MV):∀(j i at' c:Nat) (H:AH) (life:Int) (ends:List Int) (Z:List Fl) (f:Fl),i+j=parts.length→c≤at'+i→GI l at' c H d life ends [] Z f→(∀q∈Z++[f],q.ps=[])→
  Vf l parts d (j+1) H d ends ((Z.length:Nat):Int) [] (l.take at') (at':Int) (i:Int)=some (.inl ()):=by
 intro j
 induction j with
 |zero=>
  intro i at' c H life ends Z f hi hc g hs
  rw[Vf,if_neg (by simp;omega)]
 | succ j ih=>
  intro i at' c H life ends Z f hi hc g hs
  have hal:=g.al
  rw[Vf,if_pos (by simp;omega)]
  by_cases hat:at'<l.length
  case neg=>rw[if_neg (by simp;omega)]
  rw[if_pos (by simp;omega),if_pos (by omega)]
  obtain⟨n,hq,hn4⟩:∃n:Nat,IntKind.i64.wrap ((IntKind.u64.wrap (parts.getD (i:Int).toNat 0)).tmod (4:Int))=(n:Int)∧n<4:=by
   have h3:(IntKind.u64.wrap (parts.getD (i:Int).toNat 0)).tmod 4=(IntKind.u64.wrap (parts.getD (i:Int).toNat 0))%4:=Int.tmod_eq_emod_of_nonneg (JlG _)
   exact⟨((IntKind.u64.wrap (parts.getD (i:Int).toNat 0))%4).toNat,by rw[h3,JaY _ (by omega) (by omega)];omega,by omega⟩
  obtain⟨H1,ends1,dirty1,Z1,f1,at1,c1,e1,g1,hc1,ha1⟩:=Jk7 ho hn parts d life (i:Int) hn4 hq n 0 at' c H ends [] Z f (by omega) (by omega) g
  have hal1:=g1.al
  obtain⟨H2,Z2,f2,e2,g2,hs2⟩:=g1.sync (List.length ends1/2)
  have ef:((n:Int)- 0).toNat+1=n+1:=by omega
  rw[hq,ef]
  refine(congrArg (fun z=>Option.bind z _) e1).trans ?_
  rw[Option.bind_some]
  simp only
  rw[e2,Option.bind_some]
  simp only
  rw[if_neg (by decide)]
  have hlen:(l.take at1).length=at1:=by rw[List.length_take];omega
  have hok:Ok (l.take at1):=fun r hr=>ho r (List.mem_of_mem_take hr)
  have hr:=JhH (l.take at1) (by omega) fun r hr=>by have:=(hok r hr).2.1;omega
  have fin:∀(c':Nat) (H':AH) (life':Int) (e:List Int) (Z':List Fl) (f':Fl),c'≤at1+(i+1)→GI l at1 c' H' d life' e [] Z' f'→(∀q∈Z'++[f'],q.ps=[])→
    (WC (l.take at1) (l.take at1)).bind (fun b=>if(!b)=true then some (.inr false) else(Vd H' d (List.length e/2) ((Z'.length:Nat):Int) []).bind (fun r=>if(r !=(↑(List.length (l.take at1)):Int))=true then some (.inr false) else Vf l parts d (j+1) H' d e ((Z'.length:Nat):Int) [] (l.take at1) (at1:Int) (IntKind.i64.wrap ((i:Int)+(1:Int)))))=some (.inl ()):=by
   intro c' H' life' e Z' f' hc' g' hs'
   rw[hr,Option.bind_some,if_neg (by decide)]
   simp only[Vd,Option.bind_some]
   rw[if_neg (by rw[hlen,g'.el];simp),JaY ((i:Int)+1) (by omega) (by omega)]
   exact ih (i+1) at1 c' H' life' e Z' f' (by omega) hc' g' hs'
  by_cases hat1:at1<l.length
  ·have eg:l.getD (at1:Int).toNat (0,[])=l[at1]:=by simp[List.getD,hat1]
   obtain⟨H3,x,Z3,f3,e3,g3,hput⟩:=g2.append ho hn (by omega) hat1
   obtain⟨f0,q1,q2,q3⟩:=JjH g2.hh hs2 hput
   obtain⟨H4,H5,H6,life',e,Z4,f4,r1,r2,r3,r4,r5⟩:=g2.open ho hn g3.h q1 q2 q3 (Byt.rep _) (by rw[List.length_replicate,WE];have:=(ho _ (List.getElem_mem hat1)).2.1;omega) (fun p=>Jef p _ (by rw[WE];rfl))
   rw[if_pos (by simp;omega),if_pos (by omega),eg,e3,Option.bind_some]
   simp only
   rw[if_neg (by decide),r1,Option.bind_some,r2,Option.bind_some,r3,Option.bind_some]
   simp only
   rw[if_neg (by decide)]
   exact fin _ H6 life' e Z4 f4 (by omega) r4 r5
  ·have hmap:(Z2++[f2]).map Fl.lose=Z2++[Fl.lose f2]:=by
    rw[List.map_append]
    congr 1
    exact(List.map_congr_left fun q hq=>JeV (hs2 q (List.mem_append_left _ hq))).trans (List.map_id _)
   obtain⟨H4,H5,H6,life',e,Z4,f4,r1,r2,r3,r4,r5⟩:=g2.open ho hn g2.h g2.hh hmap (C:=[]) (by rw[JeV (hs2 f2 (by simp))];simp) Byt.nil (by decide) Jf8
   rw[if_neg (by simp;omega),r1,Option.bind_some,r2,Option.bind_some,r3,Option.bind_some]
   simp only
   rw[if_neg (by decide)]
   exact fin _ H6 life' e Z4 f4 (by omega) r4 r5
theorem StoreGoes:∀(a0:List (Int×List Int)) (a1:List Int),(∀r∈a0,(Lit.int .i64 r.1).wf=true∧∀x∈r.2,(Lit.int .u8 x).wf=true)→(∀x∈a1,(Lit.int .i64 x).wf=true)→Xf a0 a1=some true:=by
 intro l parts hwf _
 unfold Xf
 by_cases hn:l.length≤30
 case neg=>rw[if_pos (by simp;omega)]
 rw[if_neg (by simp;omega)]
 by_cases hp:parts.length≤30
 case neg=>rw[if_pos (by simp;omega)]
 rw[if_neg (by simp;omega)]
 have ek:((l.length:Int)- 0).toNat+1=l.length+1:=by omega
 have ek2:((parts.length:Int)- 0).toNat+1=parts.length+1:=by omega
 rw[ek]
 rcases Jkk l (fun r hr=>(hwf r hr).2) (by omega) parts l.length 0 (by omega) with g|⟨ho,g⟩
 ·refine(congrArg (fun z=>Option.bind z _) g).trans ?_
  rfl
 refine(congrArg (fun z=>Option.bind z _) g).trans ?_
 rw[Option.bind_some]
 simp only
 rw[List.drop_zero] at ho
 obtain⟨H,e1,h1⟩:=Jih
 obtain⟨hN,hP⟩:=Jkv h1
 rw[e1,Option.bind_some]
 simp only
 rw[if_pos (.inr hP),if_neg (by decide),ek2]
 have hs:∀q∈([]:List Fl)++[⟨[],[]⟩],q.ps=[]:=fun q hq=>by rw[List.mem_singleton.1 (show q∈[_] from hq)]
 have e2:=JkW ho hn parts hp (.ptr 1 0) parts.length 0 0 0 H 0 [] [] ⟨[],[]⟩ (by omega) (by omega) ⟨h1,JiK,by omega,rfl,by simp,(fun x hx=>by cases hx),fun i q hq hne=>absurd (hs q (List.mem_of_getElem? hq)) hne⟩ hs
 refine(congrArg (fun z=>Option.bind z _) e2).trans ?_
 rw[Option.bind_some]
 simp only
 rw[JjB]
 rfl
end Go.St

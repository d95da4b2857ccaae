/- The walk's engine, part 12: from a law's contract to its row. -/
import Derived.Test.YtdbheiibkpendaaGreatDoorGw10
import Derived.ProofKit
import Derived.ChangeShapes
import Derived.OpenShut
import Derived.ShutString
import Derived.ChangeOld
import Derived.Below
import Derived.SizedLaws
import Derived.Carry
import Derived.ChangeSlices
import Derived.ChangeSame
import Derived.Deep.SlicePairs
namespace Go.Gw
open Go.RowKit Go.ChangeShapes Go.WideShapes Go.ChangeAt
variable {P:Program}
def Jh8:List (Nat×Value)→Nat→Value
 |[],_=> .nilFunc
 |(κ,v)::r,x=>bif Nat.beq κ x then v else Jh8 r x
theorem JiR {l:List (Nat×Value)} (h:∀p∈l,p.2.oneCell'=true) (κ:Nat):(Jh8 l κ).oneCell'=true:=by
 induction l with
 |nil=>rfl
 |cons p r ih=>
  obtain⟨κ',v⟩:=p
  simp only[Jh8]
  cases Nat.beq κ' κ with
  |true=>exact h (κ',v) (by simp)
  |false=>exact ih fun p hp=>h p (by simp[hp])
theorem Jeh {f:Nat} {fn:Func} {c:Code} {args:List SV} {pre:List (Nat×Ent)} {res:SV} (hf:P.funcs[f]? =some fn) (hnm:(fn.name== "runtime.NumGoroutine")=false) (hb:fn.body=some c)
  (h:CallOk P f args pre res []) (hok:∀x∈args,x.ok) (γ:Nat→Value) (h1:∀κ,(γ κ).oneCell'=true) (w:World) (hp:∀p∈pre,p.2.at (Ge w) γ w p.1) (hm:∀p∈pre,p.2.mut=false):
  Calls P f (args.map (SV.den γ)).toArray w fun e w'=>e= .returned (res.den γ)∧Below w.heap.size w w':=by
 have:=h (Ge w) γ w hp (fun p hpp q _ _ hmu=>by rw[hm p hpp] at hmu;cases hmu) hok (fun b hb=>hb) h1
 unfold RunOk at this
 rw[Vf hf hnm hb] at this
 refine Calls.mono this ?_
 rintro e w' ⟨v,rfl,γ',g1,_,h2,_,h3,_⟩
 refine⟨?_,⟨h3.os,h3.tape,h3.output,h3.size,fun k hk=>h3.block k hk fun ht=> ?_⟩⟩
 ·rw[h2]
  congr 1
  exact SV.den_congr fun κ _=>g1 κ (by simp)
 ·rcases ht with ht|⟨p,hpp,hmu,_⟩
  ·omega
  ·rw[hm p hpp] at hmu;cases hmu
section
variable {H:Type} {enc:TypeId×Value→H} {w:World} {base:Nat} {spare:Nat→Bool} {held:Bool}
theorem Jl0 {w:World} {r:Reach} {b0:Nat} {a:Addr} {e:TypeId} {n:Nat} (h:w.has P r b0 a e n):a.spot=none∧a.block<w.heap.size:=by
 obtain⟨_,h1,row,cells,h2,_⟩:=h
 refine⟨h1,?_⟩
 rcases Nat.lt_or_ge a.block w.heap.size with h'|h'
 ·exact h'
 ·simp[World.shape?,Array.getElem?_eq_none h'] at h2
theorem Jgv {w:World} {a:Addr} {u:Value} (h:w.cell? a=some u):a.spot=none∧a.block<w.heap.size:=by
 unfold World.cell? at h
 split at h
 ·rename_i c _ _ hc
  refine⟨?_,(Array.getElem?_eq_some_iff.1 hc).1⟩
  cases hs:a.spot with
  |none=>rfl
  |some x=>rw[hs] at h;simp at h
 ·cases h
theorem JgK {t e:TypeId} {k:IntKind} {v:Value} {n:Nat} {x:DataW H×List MemPlace} (ht:P.underlying t=some (.slice e)) (he:P.underlying e=some (.int k)) (hce:P.cellsOf e=1)
  (hf:DataW.trod enc P w base (fun _=>true) held n t [v]=some x):∃l:List Int,RdI w v k l∧v.oneCell'=true∧∀x∈l,(Lit.int k x).wf=true:=by
 rcases open_ints ht he hce hf with⟨h,_⟩|⟨a,len,cap,zs,h,_,g1,g2,g3,_,g5,g6⟩
 ·simp only[List.cons.injEq,and_true] at h
  subst h
  exact⟨[],.inl ⟨⟨none,rfl⟩,rfl⟩,rfl,by simp⟩
 ·simp only[List.cons.injEq,and_true] at h
  subst h
  simp only[if_true] at g3
  by_cases hc:cap=0
  ·subst hc
   obtain rfl:len=0:=by omega
   exact⟨[],.inl ⟨⟨some a,rfl⟩,rfl⟩,rfl,by simp⟩
  ·have h0:=g5 0 (by omega)
   have h0':w.cell? a=some (.int k (zs.getD 0 0)):=by simpa[Addr.add] using h0
   obtain⟨q1,q2⟩:=Jgv h0'
   have hlen:(zs.take len).length=len:=by simp;omega
   refine⟨zs.take len,.inr ⟨a,cap,by rw[hlen],by rw[hlen];exact g1,g2,q2,q1,fun i hi=> ?_⟩,rfl,fun x hx=>g6 x (List.mem_of_mem_take hx)⟩
   rw[hlen] at hi
   rw[g5 i (by omega)]
   simp[List.getD,hi]
theorem Jcw {α:Type} {p:Nat→α→Prop}:∀n:Nat,(∀i,i<n→∃y,p i y)→∃L:List α,L.length=n∧∀i y,L[i]? =some y→p i y
 |0,_=>⟨[],rfl,fun i y h=>by simp at h⟩
 | n+1,h=>by
  obtain⟨L,h1,h2⟩:=Jcw n fun i hi=>h i (by omega)
  obtain⟨y,hy⟩:=h n (by omega)
  refine⟨L++[y],by simp[h1],fun i z hz=> ?_⟩
  by_cases hi:i<L.length
  ·rw[List.getElem?_append_left hi] at hz;exact h2 i z hz
  ·rw[List.getElem?_append_right (by omega)] at hz
   have hi2:i-L.length=0:=by
    rcases Nat.eq_zero_or_pos (i-L.length) with h'|h'
    ·exact h'
    ·rw[List.getElem?_eq_none (by simp;omega)] at hz;cases hz
   rw[hi2] at hz
   simp at hz
   subst hz
   have:i=n:=by omega
   rw[this];exact hy
theorem Jif {r:Reach} {b0:Nat} {t e:TypeId} {v:Value} (ht:P.underlying t=some (.slice e)) (hval:Value.okWide P w r b0 t v):(v= .slice none 0 0)∨∃a len cap,v= .slice (some a) len cap∧a.spot=none∧a.block<w.heap.size:=by
 have hc:Cell.ok P w r b0 t v:=by
  unfold Value.okWide at hval
  rw[ht] at hval
  unfold Cell.okWide at hval
  rw[ht] at hval
  simpa using hval
 unfold Cell.ok at hc
 rw[ht] at hc
 split at hc<;>first|(rename_i h1;cases h1;done)|(rename_i h1 _;cases h1;done)|(rename_i h1 _ _;cases h1;done)|skip
 all_goals first
  |exact hc.elim
  |skip
 ·exact .inl rfl
 ·rename_i e' a len cap h1
  cases h1
  obtain⟨h2,h3,h4⟩:=hc
  obtain⟨q1,q2⟩:=Jl0 h4
  exact .inr ⟨a,len,cap,rfl,q1,q2⟩
theorem JeD {r:Reach} {b0:Nat} {t e e2:TypeId} {f0 f1:Field} {v:Value} {d:DataW H} {ps:List MemPlace} (ht:P.underlying t=some (.slice e)) (he:P.underlying e=some (.struct #[f0,f1])) (k0:P.underlying f0.type=some (.int .i64)) (k1:P.underlying f1.type=some (.slice e2))
  (ke:P.underlying e2=some (.int .u8)) (hce:P.cellsOf e2=1) (hct:P.cellsOf e=2) (o0:f0.offset=0) (o1:f1.offset=1) (c0:P.cellsOf f0.type=1) (c1:P.cellsOf f1.type=1)
  (hval:Value.okWide P w r b0 t v) (hd:DataW.Trod enc P w base (fun _=>true) held t v d ps):
  ∃ll:List (Int×List Int),RdR w v (.rc ll)∧v.oneCell'=true∧∀r∈ll,(Lit.int .i64 r.1).wf=true∧∀x∈r.2,(Lit.int .u8 x).wf=true:=by
 obtain⟨fuel,hf⟩:=hd
 rcases Jif ht hval with rfl|⟨a,len,cap,rfl,q1,q2⟩
 ·exact⟨[],.inl ⟨rfl,rfl⟩,rfl,by simp⟩
 ·rcases Deep.open_slice_pairs ht he hct o0 o1 c0 c1 hf with⟨h,_⟩|⟨a',len',cap',m,n,V0,V1,D0,D1,P0,P1,h,_,h1,h2,h3,_,h4⟩
  ·simp[Value.cells] at h
  ·simp only[Value.cells,List.cons.injEq,Value.slice.injEq,Option.some.injEq,and_true] at h
   obtain⟨rfl,rfl,rfl⟩:=h
   simp only[if_true] at h3
   obtain⟨ll,g1,g2⟩:=Jcw (p:=fun i (l:Int×List Int)=>V0 i= .int .i64 l.1∧RdI w (V1 i) .u8 l.2∧(V1 i).oneCell'=true∧(Lit.int .i64 l.1).wf=true∧∀x∈l.2,(Lit.int .u8 x).wf=true) len fun i hi=>by
    obtain⟨_,_,t0,t1⟩:=h4 i (by omega)
    obtain⟨l,s1,s2,s3⟩:=JgK k1 ke hce t1
    cases n with
    |zero=>simp[DataW.trod] at t0
    |succ m'=>
     obtain⟨z,z1,_,z3⟩:=DataW.trod_int k0 t0
     simp only[List.cons.injEq,and_true] at z1
     exact⟨(z,l),z1,s1,s2,z3,s3⟩
   refine⟨ll,.inr ⟨a,cap,by simp[RowsK.len,g1],by simp[RowsK.len,g1];exact h1,h2,q2,q1,fun j d hd=> ?_⟩,rfl,fun l hl=> ?_⟩
   ·have hj2:j<(RowsK.rc ll).cells.length:=(List.getElem?_eq_some_iff.1 hd).1
    rw[RowsK.cells_len] at hj2
    simp only[RowsK.len,RowsK.sz] at hj2
    have hi:j/2<ll.length:=by omega
    obtain⟨c1',c2'⟩:=Jc7 ll (j/2) hi
    obtain⟨s1,s2,s3,_⟩:=g2 (j/2) ll[j/2] (List.getElem?_eq_getElem hi)
    have hg:ll.getD (j/2) (0,[])=ll[j/2]:=by simp[List.getD,hi]
    obtain⟨t0,t1,_,_⟩:=h4 (j/2) (by omega)
    rcases Nat.mod_two_eq_zero_or_one j with hm|hm
    ·have ej:j=j/2*2:=by omega
     rw[ej] at hd ⊢
     rw[c1'] at hd
     cases hd
     exact⟨_,t0,by rw[s1];rfl,by rw[hg];exact s1⟩
    ·have ej:j=j/2*2+1:=by omega
     rw[ej] at hd ⊢
     rw[c2'] at hd
     cases hd
     exact⟨_,t1,s3,by rw[hg];exact s2⟩
   ·obtain⟨j,hj⟩:=List.mem_iff_getElem?.1 hl
    exact(g2 j l hj).2.2.2
end
end Go.Gw

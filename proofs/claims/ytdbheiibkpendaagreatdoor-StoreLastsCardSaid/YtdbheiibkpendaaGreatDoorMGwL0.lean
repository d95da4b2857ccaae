/- The kinds of a record's cells, as plain data. -/
import Derived.Test.YtdbheiibkpendaaGreatDoorGw0
import Derived.Test.YtdbheiibkpendaaGreatDoorGw12
import Derived.Deep.Grids
namespace Go.Gw
inductive LK where
 |int (k:IntKind)
 |bytes (k:IntKind) (e:TypeId)
 |bools (e:TypeId)
def LK.ok:LK→DL→Prop
 | .int k,d=>∃n,d= .int k n∧(Lit.int k n).wf=true
 | .bytes k _,d=>∃l,d= .bytes k l∧∀x∈l,(Lit.int k x).wf=true
 | .bools _,d=>∃l,d= .bools l
def LKs (ks:List LK) (r:List DL):Prop:=r.length=ks.length∧∀(j:Nat) (k:LK) (d:DL),ks[j]?=some k→r[j]?=some d→k.ok d
end Go.Gw
/- The walk's engine: a law's arguments that are slices of truths, of records of numbers, bytes and truths, opened. -/
namespace Go.Gw
open Go.RowKit Go.ChangeShapes Go.WideShapes Go.ChangeAt
variable {P:Program}
section
variable {H:Type} {enc:TypeId×Value→H} {w:World} {base:Nat} {spare:Nat→Bool} {held:Bool}
theorem JgU {r:Reach} {b0:Nat} {t e:TypeId} {v:Value} {d:DataW H} {ps:List MemPlace} (ht:P.underlying t=some (.slice e)) (he:P.underlying e=some .bool) (hce:P.cellsOf e=1)
  (hval:Value.okWide P w r b0 t v) (hd:DataW.Trod enc P w base (fun _=>true) held t v d ps):
  ∃l:List Bool,RdB w v l∧v.oneCell'=true:=by
 obtain⟨fuel,hf⟩:=hd
 rcases Jd9 ht hval with rfl|⟨a,len,cap,rfl,q1,q2⟩
 ·exact⟨[],.inl ⟨⟨none,rfl⟩,rfl⟩,rfl⟩
 ·rcases Deep.open_bools ht he hce hf with⟨h,_⟩|⟨a',len',cap',B,h,_,h1,h2,_,h4⟩
  ·simp[Value.cells] at h
  ·simp only[Value.cells,List.cons.injEq,Value.slice.injEq,Option.some.injEq,and_true] at h
   obtain⟨rfl,rfl,rfl⟩:=h
   refine⟨(List.range len).map B,.inr ⟨a,cap,by simp,by simpa using h1,h2,q2,q1,fun i hi=> ?_⟩,rfl⟩
   have hi:i<len:=by simpa using hi
   rw[h4 i (by omega)]
   simp[List.getD_eq_getElem?_getD,List.getElem?_map,List.getElem?_range hi]
theorem Jfn {t e:TypeId} {v:Value} {n:Nat} {x:DataW H×List MemPlace} (ht:P.underlying t=some (.slice e)) (he:P.underlying e=some .bool) (hce:P.cellsOf e=1)
  (hf:DataW.trod enc P w base (fun _=>true) held n t [v]=some x):∃l:List Bool,RdB w v l∧v.oneCell'=true:=by
 rcases Deep.open_bools ht he hce hf with⟨h,_⟩|⟨a,len,cap,B,h,_,h1,h2,_,h4⟩
 ·simp only[List.cons.injEq,and_true] at h
  subst h
  exact⟨[],.inl ⟨⟨none,rfl⟩,rfl⟩,rfl⟩
 ·simp only[List.cons.injEq,and_true] at h
  subst h
  by_cases hc:cap=0
  ·subst hc
   obtain rfl:len=0:=by omega
   exact⟨[],.inl ⟨⟨some a,rfl⟩,rfl⟩,rfl⟩
  ·have h0:=h4 0 (by omega)
   have h0':w.cell? a=some (.bool (B 0)):=by simpa[Addr.add] using h0
   obtain⟨q1,q2⟩:=Jc9 h0'
   refine⟨(List.range len).map B,.inr ⟨a,cap,by simp,by simpa using h1,h2,q2,q1,fun i hi=> ?_⟩,rfl⟩
   have hi:i<len:=by simpa using hi
   rw[h4 i (by omega)]
   simp[List.getD_eq_getElem?_getD,List.getElem?_map,List.getElem?_range hi]
def LK.und (P:Program) (t:TypeId):LK→Prop
 | .int k=>P.underlying t=some (.int k)
 | .bytes k e=>P.underlying t=some (.slice e)∧P.underlying e=some (.int k)∧P.cellsOf e=1
 | .bools e=>P.underlying t=some (.slice e)∧P.underlying e=some .bool∧P.cellsOf e=1
theorem Jln {t:TypeId} {k:LK} {v:Value} {n:Nat} {x:DataW H×List MemPlace} (hk:k.und P t) (hf:DataW.trod enc P w base (fun _=>true) held n t [v]=some x):
  ∃d:DL,d.at w v∧v.oneCell'=true∧k.ok d:=by
 cases k with
 | int k=>
  cases n with
  |zero=>simp[DataW.trod] at hf
  |succ m=>
   obtain⟨z,h2,_,h4⟩:=DataW.trod_int hk hf
   simp only[List.cons.injEq,and_true] at h2
   subst h2
   exact⟨.int k z,rfl,rfl,z,rfl,h4⟩
 |bytes k e=>
  obtain⟨h1,h2,h3⟩:=hk
  obtain⟨l,q1,q2,q3⟩:=JhC h1 h2 h3 hf
  exact⟨.bytes k l,q1,q2,l,rfl,q3⟩
 |bools e=>
  obtain⟨h1,h2,h3⟩:=hk
  obtain⟨l,q1,q2⟩:=Jfn h1 h2 h3 hf
  exact⟨.bools l,q1,q2,l,rfl⟩
end
end Go.Gw
/- The walk's engine: a law's argument that is a slice of records whose cells may be records, opened. -/
namespace Go.Gw
open Go.RowKit Go.ChangeShapes Go.WideShapes Go.ChangeAt
variable {P:Program}
section
variable {H:Type} {enc:TypeId×Value→H} {w:World} {base:Nat} {held:Bool}
def JjS (P:Program) (H:Type) (enc:TypeId×Value→H) (w:World) (base:Nat) (held:Bool) (t:TypeId) (kl:List LK):Prop:=
 ∀(n:Nat) (cs:List Value) (x:DataW H×List MemPlace),DataW.trod enc P w base (fun _=>true) held n t cs=some x→cs.length=kl.length→
  ∀(j:Nat) (k:LK),kl[j]?=some k→∃u d,cs[j]?=some u∧u.oneCell'=true∧d.at w u∧k.ok d
theorem XN {t:TypeId} {k:LK} (h:k.und P t):JjS P H enc w base held t [k]:=by
 intro n cs x hf hl j k' hk
 match cs,hl with
 | [v],_=>
  obtain⟨d,d1,d2,d3⟩:=Jln h hf
  match j with
  |0=>
   simp only[List.getElem?_cons_zero,Option.some.injEq] at hk
   subst hk
   exact⟨v,d,rfl,d2,d1,d3⟩
  |j+1=>simp at hk
theorem JlI {α:Type}:∀(g:List (List α)) (j:Nat) (k:α),g.flatten[j]?=some k→∃(i:Nat) (l:List α) (m:Nat),g[i]?=some l∧l[m]?=some k∧j=(g.take i).flatten.length+m:=by
 intro g
 induction g with
 |nil=>intro j k h;simp at h
 | cons l g ih=>
  intro j k h
  rw[List.flatten_cons] at h
  by_cases hj:j<l.length
  ·rw[List.getElem?_append_left hj] at h
   exact⟨0,l,j,rfl,h,by simp⟩
  ·rw[List.getElem?_append_right (by omega)] at h
   obtain⟨i,l',m,h1,h2,h3⟩:=ih _ _ h
   refine⟨i+1,l',m,by simpa using h1,h2,?_⟩
   rw[List.take_succ_cons,List.flatten_cons,List.length_append]
   omega
theorem JdV {α:Type}:∀(g:List (List α)) (i:Nat) (l:List α),g[i]?=some l→(g.take i).flatten.length+l.length≤g.flatten.length:=by
 intro g
 induction g with
 |nil=>intro i l h;simp at h
 | cons a g ih=>
  intro i l h
  cases i with
  |zero=>
   simp only[List.getElem?_cons_zero,Option.some.injEq] at h
   subst h
   rw[List.flatten_cons,List.length_append];simp
  |succ i=>
   have:=ih i l (by simpa using h)
   rw[List.take_succ_cons,List.flatten_cons,List.flatten_cons,List.length_append,List.length_append]
   omega
theorem Jby {e:TypeId} {fs:Array Field} {g:List (List LK)} (he:P.underlying e=some (.struct fs)) (hsz:fs.size=g.length)
  (hg:∀(i:Nat) (f:Field) (l:List LK),fs[i]?=some f→g[i]?=some l→f.offset=(g.take i).flatten.length∧P.cellsOf f.type=l.length∧JjS P H enc w base held f.type l):JjS P H enc w base held e g.flatten:=by
 intro n cs x hf hl j k hk
 cases n with
 |zero=>simp[DataW.trod] at hf
 |succ n=>
  obtain⟨xs,k',_,_,_,hxl,hff⟩:=DataW.trod_struct he hf
  obtain⟨i,l,m,h1,h2,h3⟩:=JlI g j k hk
  have hil:i<fs.size:=by rw[hsz];exact(List.getElem?_eq_some_iff.1 h1).1
  have ef:fs[i]?=some fs[i]:=Array.getElem?_eq_getElem hil
  obtain⟨o1,o2,o3⟩:=hg i _ l ef h1
  have hx:=hff i _ ef
  rw[o1,o2] at hx
  have hle:=JdV g i l h1
  have hm:=(List.getElem?_eq_some_iff.1 h2).1
  rw[List.getElem?_eq_getElem (by omega)] at hx
  obtain⟨u,d,q1,q2⟩:=o3 _ _ _ hx (by rw[List.length_take,List.length_drop];omega) m k h2
  refine⟨u,d,?_,q2⟩
  rw[List.getElem?_take_of_lt hm,List.getElem?_drop] at q1
  rw[h3];exact q1
theorem Jks {r:Reach} {b0:Nat} {t e:TypeId} {ks:List LK} {v:Value} {d:DataW H} {ps:List MemPlace} (ht:P.underlying t=some (.slice e)) (hce:P.cellsOf e=ks.length)
  (ho:JjS P H enc w base held e ks) (hval:Value.okWide P w r b0 t v) (hd:DataW.Trod enc P w base (fun _=>true) held t v d ps):
  ∃ll:List (List DL),RdR w v (.gn ks.length ll)∧v.oneCell'=true∧∀r∈ll,LKs ks r:=by
 obtain⟨fuel,hf⟩:=hd
 rcases Jd9 ht hval with rfl|⟨a,len,cap,rfl,q1,q2⟩
 ·exact⟨[],.inl ⟨rfl,rfl⟩,rfl,by simp⟩
 ·rcases Deep.open_slice ht hf with⟨h,_⟩|⟨a',len',cap',m,n,D,Pl,h,_,h1,h2,h3,_,h4⟩
  ·simp[Value.cells] at h
  ·simp only[Value.cells,List.cons.injEq,Value.slice.injEq,Option.some.injEq,and_true] at h
   obtain⟨rfl,rfl,rfl⟩:=h
   simp only[if_true] at h3
   have each:∀i,i<len→∃r:List DL,LKs ks r∧∀j d,r[j]?=some d→∃u,w.cell? (a.add (i*ks.length+j))=some u∧u.oneCell'=true∧d.at w u:=by
    intro i hi
    obtain⟨cs',g1,g2⟩:=h4 i (by omega)
    rw[hce] at g1
    obtain⟨_,hlen,hcell⟩:=World.cells?_some g1
    obtain⟨r,g3,g4⟩:=Jay (p:=fun j (d:DL)=>∃u k,cs'[j]?=some u∧u.oneCell'=true∧d.at w u∧ks[j]?=some k∧k.ok d) ks.length fun j hj=>by
     have ek:ks[j]?=some ks[j]:=List.getElem?_eq_getElem hj
     obtain⟨u,d,s1,s2,s3,s4⟩:=ho _ _ _ g2 hlen j _ ek
     exact⟨d,u,ks[j],s1,s2,s3,ek,s4⟩
    refine⟨r,⟨g3,fun j k d hk hd=> ?_⟩,fun j d hd=> ?_⟩
    ·obtain⟨u,k2,_,_,_,s4,s5⟩:=g4 j d hd
     rw[hk] at s4;cases s4;exact s5
    ·obtain⟨u,k2,s1,s2,s3,_,_⟩:=g4 j d hd
     have hj:j<ks.length:=by rw[←g3];exact(List.getElem?_eq_some_iff.1 hd).1
     have e0:=hcell j (by omega)
     rw[Deep.add_add] at e0
     rw[s1] at e0
     exact⟨u,e0,s2,s3⟩
   obtain⟨ll,g1,g2⟩:=Jay len each
   refine⟨ll,.inr ⟨a,cap,by simp[RowsK.len,g1],by simp[RowsK.len,g1];exact h1,h2,q2,q1,fun j d hd=> ?_⟩,rfl,fun l hl=> ?_⟩
   ·have hj2:j<(RowsK.gn ks.length ll).cells.length:=(List.getElem?_eq_some_iff.1 hd).1
    rw[RowsK.cells_len] at hj2
    simp only[RowsK.len,RowsK.sz] at hj2
    have hk0:0<ks.length:=by
     rcases Nat.eq_zero_or_pos ks.length with h|h
     ·rw[h] at hj2;omega
     ·exact h
    have hi:j/ks.length<ll.length:=Nat.div_lt_of_lt_mul (by rw[Nat.mul_comm];exact hj2)
    have hm:j%ks.length<ks.length:=Nat.mod_lt _ hk0
    obtain⟨s1,s2⟩:=g2 (j/ks.length) ll[j/ks.length] (List.getElem?_eq_getElem hi)
    have hdm:=Nat.div_add_mod j ks.length
    have e1:(RowsK.gn ks.length ll).cells[j/ks.length*ks.length+j%ks.length]?=some (WY ll (j/ks.length) (j%ks.length)):=Jk3 _ _ _ _ hi hm
    rw[show j/ks.length*ks.length+j%ks.length=j by rw[Nat.mul_comm];exact hdm] at e1
    rw[e1] at hd
    cases hd
    have hr:ll[j/ks.length][j%ks.length]?=some (WY ll (j/ks.length) (j%ks.length)):=by
     have hrl:j%ks.length<ll[j/ks.length].length:=by rw[s1.1];exact hm
     rw[List.getElem?_eq_getElem hrl]
     simp[WY,dlR,List.getD_eq_getElem?_getD,hi,hrl]
    obtain⟨u,t1,t2,t3⟩:=s2 _ _ hr
    rw[show j/ks.length*ks.length+j%ks.length=j by rw[Nat.mul_comm];exact hdm] at t1
    exact⟨u,t1,t2,t3⟩
   ·obtain⟨j,hj⟩:=List.mem_iff_getElem?.1 hl
    exact(g2 j l hj).1
end
end Go.Gw

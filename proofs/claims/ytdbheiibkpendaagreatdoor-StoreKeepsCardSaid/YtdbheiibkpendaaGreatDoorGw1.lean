/- The walk's engine, part 1: what the symbols say is so. -/
import Derived.Test.YtdbheiibkpendaaGreatDoorGwA1
namespace Go.Gw
open Go.RowKit
theorem WF {a b:IntKind} (h:keq a b=true):a=b:=by
 cases a<;>cases b<;>first|rfl|(simp [keq,Jlh] at h)
theorem Leaf.cells_len {γ:Nat→Value} {x:Leaf} (h:x.ok):(x.cells γ).length=x.size:=by
 cases x<;>simp[Leaf.cells,Leaf.size]
 simpa[Leaf.ok] using h
theorem Vq {γ:Nat→Value}:∀{m:List Leaf},(∀x∈m,x.ok)→(Jq γ m).length=(m.map Leaf.size).sum
 |[],_=>rfl
 |x::r,h=>by
  have:=Vq (γ:=γ) (m:=r) fun y hy=>h y (by simp[hy])
  simp only[Jq,List.flatMap_cons,List.length_append,List.map_cons,List.sum_cons] at*
  rw[this,Leaf.cells_len (h x (by simp))]
theorem JF {γ:Nat→Value} (a b:List Leaf):Jq γ (a++b)=Jq γ a++Jq γ b:=by simp[Jq]
theorem JP {γ:Nat→Value} (a:Leaf) (b:List Leaf):Jq γ (a::b)=a.cells γ++Jq γ b:=by simp[Jq]
theorem Xg:∀(ls:List Leaf) (n:Nat) (m r:List Leaf),YU ls n=some (m,r)→ls=m++r∧(m.map Leaf.size).sum=n
 |ls,0,m,r,h=>by
  simp[YU] at h
  obtain⟨rfl,rfl⟩:=h
  simp
 |[],n+1,m,r,h=>by simp[YU] at h
 | x::t,n+1,m,r,h=>by
  simp only[YU] at h
  cases hc:(Nat.ble x.size (n+1)&&Nat.ble 1 x.size) with
  |false=>simp[hc] at h
  |true=>
   simp only[hc,cond_true,Option.map_eq_some_iff] at h
   obtain⟨⟨m',r'⟩,h1,h2⟩:=h
   simp only[Prod.mk.injEq] at h2
   obtain⟨rfl,rfl⟩:=h2
   have hle:x.size≤n+1:=Nat.le_of_ble_eq_true (by simp at hc;simpa using hc.1)
   have h1':1≤x.size:=Nat.le_of_ble_eq_true (by simp at hc;simpa using hc.2)
   obtain⟨e1,e2⟩:=Xg t (n+1-x.size) m' r' h1
   subst e1
   simp
   omega
termination_by _ n=>n
theorem JcY:∀(ls:List Leaf) (n:Nat) (r:List Leaf),JcG ls n=some r→∃m,ls=m++r∧(m.map Leaf.size).sum=n
 |ls,0,r,h=>by
  simp[JcG] at h
  exact⟨[],by simp[h]⟩
 |[],n+1,r,h=>by simp[JcG] at h
 | x::t,n+1,r,h=>by
  simp only[JcG] at h
  cases hc:(Nat.ble x.size (n+1)&&Nat.ble 1 x.size) with
  |false=>simp[hc] at h
  |true=>
   simp only[hc,cond_true] at h
   have hle:x.size≤n+1:=Nat.le_of_ble_eq_true (by simp at hc;simpa using hc.1)
   have h1':1≤x.size:=Nat.le_of_ble_eq_true (by simp at hc;simpa using hc.2)
   obtain⟨m,e1,e2⟩:=JcY t (n+1-x.size) r h
   exact⟨x::m,by simp[e1],by simp;omega⟩
termination_by _ n=>n
theorem WX:∀(ls:List Leaf) (off:Nat) (x:Leaf),Xy ls off=some x→
  ∃m r,ls=m++x::r∧(m.map Leaf.size).sum=off∧∀y,Yw ls off y=m++y::r
 |[],off,x,h=>by simp[Xy] at h
 | z::t,off,x,h=>by
  simp only[Xy] at h
  cases h0:Nat.beq off 0 with
  |true=>
   simp only[h0,cond_true,Option.some.injEq] at h
   subst h
   have:=Nat.eq_of_beq_eq_true h0
   subst this
   exact⟨[],t,rfl,rfl,fun y=>by simp[Yw]⟩
  | false=>
   simp only[h0,cond_false] at h
   cases h1:Nat.ble z.size off with
   |false=>simp[h1] at h
   |true=>
    simp only[h1,cond_true] at h
    have hle:=Nat.le_of_ble_eq_true h1
    obtain⟨m,r,e1,e2,e3⟩:=WX t (off-z.size) x h
    refine⟨z::m,r,by simp[e1],by simp;omega,fun y=> ?_⟩
    simp[Yw,h0,e3 y]
theorem JeS (v:Value) (i:Nat):(JM v i).oneCell'=true:=by unfold JM;split<;>rfl
theorem JfT {γ:Nat→Value} (h1:∀κ,(γ κ).oneCell'=true) (x:Leaf):∀v∈x.cells γ,v.oneCell'=true:=by
 intro v hv
 cases x<;>simp[Leaf.cells] at hv
 case arr k n l=>obtain⟨a,_,rfl⟩:=hv;rfl
 case per κ sz i off=>subst hv;exact JeS _ _
 case slc κ=>subst hv;exact h1 κ
 all_goals (subst hv;rfl)
theorem Jhi {γ:Nat→Value} (h1:∀κ,(γ κ).oneCell'=true) (m:List Leaf):∀v∈Jq γ m,v.oneCell'=true:=by
 intro v hv
 simp only[Jq,List.mem_flatMap] at hv
 obtain⟨x,_,hx⟩:=hv
 exact JfT h1 x v hx
theorem WB {γ:Nat→Value} {x:Leaf} (h:x.lone):x.cells γ=[(x.cells γ).headD undef]:=by
 cases x<;>first|rfl|exact h.elim
theorem QC {γ:Nat→Value} (h1:∀κ,(γ κ).oneCell'=true) {x:Leaf} (h:x.lone):((x.cells γ).headD undef).oneCell'=true:=
 JfT h1 x _ (by rw[WB h];simp)
theorem Va {v:Value} (h:v.oneCell'=true):v.cells= #[v]:=by cases v<;>simp_all [Value.cells,Value.oneCell']
def Leaf.keys:Leaf→List Nat
 | .ptr κ _| .pe κ _ _ _| .per κ _ _ _| .slc κ| .view κ _ _ _ _| .clo _ κ=>[κ]
 |_=>[]
theorem Jbz (x:Leaf):V1.keys.lk x=x.keys:=by cases x<;>rfl
theorem JbQ {γ γ':Nat→Value} {x:Leaf} (h:∀κ∈x.keys,γ' κ=γ κ):x.cells γ'=x.cells γ:=by
 cases x<;>first|rfl|(simp [Leaf.keys] at h;simp[Leaf.cells,bk,h])
theorem Yj {γ γ':Nat→Value} {m:List Leaf} (h:∀x∈m,∀κ∈x.keys,γ' κ=γ κ):Jq γ' m=Jq γ m:=by
 induction m with
 |nil=>rfl
 |cons x r ih=>
  rw[JP,JP,JbQ (h x (by simp)),ih fun y hy=>h y (by simp[hy])]
theorem V1.den_congr {γ γ':Nat→Value} {x:V1} (h:∀κ∈x.keys,γ' κ=γ κ):x.den γ'=x.den γ:=by
 cases x with
 |one x=>simp only[V1.den];rw[JbQ (by simpa[V1.keys,Jbz] using h)]
 |agg l=>
  simp only[V1.den]
  rw[Yj fun x hx κ hκ=>h κ (by simp only[V1.keys,List.mem_flatMap];exact⟨x,hx,by rwa [Jbz]⟩)]
theorem SV.den_congr {γ γ':Nat→Value} {x:SV} (h:∀κ∈x.keys,γ' κ=γ κ):x.den γ'=x.den γ:=by
 cases x with
 |v x=>exact V1.den_congr h
 |tup l=>
  simp only[SV.den]
  congr 2
  exact List.map_congr_left fun x hx=>V1.den_congr fun κ hκ=>h κ (by simp only[SV.keys,List.mem_flatMap];exact⟨x,hx,hκ⟩)
def Ent.keys:Ent→List Nat
 | .blk _ l| .rblk _ l| .lit _ _ l=>l.flatMap Leaf.keys
 | .arena _ bs _=>bs
 | .apt κ _=>[κ]
 | .wv κ _=>[κ]
 | .ptn κ _=>[κ]
 |_=>[]
def Cont.keys:Cont→List Nat
 | .v x=>x.keys
 | .e x=>x.keys
theorem Ent.at_congr {B:Nat→Prop} {γ γ':Nat→Value} {w:World} {κ:Nat} {e:Ent} (h0:γ' κ=γ κ) (h:∀κ'∈e.keys,γ' κ'=γ κ') (ha:e.at B γ w κ):e.at B γ' w κ:=by
 have hl:∀l:List Leaf,(∀κ'∈l.flatMap Leaf.keys,γ' κ'=γ κ')→Jq γ' l=Jq γ l:=fun l hl=>
  Yj fun x hx κ' hκ'=>hl κ' (by simp only[List.mem_flatMap];exact⟨x,hx,hκ'⟩)
 cases e with
 |blk ty l=>
  obtain⟨b,h1,h2,h3,h4⟩:=ha
  refine⟨b,h0.trans h1,h2,?_,h4⟩
  rw[hl l h]
  exact h3
 |rblk ty l=>
  obtain⟨b,fr,h1,h3,h4⟩:=ha
  refine⟨b,fr,h0.trans h1,?_,h4⟩
  rw[hl l h]
  exact h3
 |lit e n l=>
  obtain⟨b,h1,h2,h3,h4,h5⟩:=ha
  refine⟨b,h0.trans h1,h2,h3,?_,h5⟩
  rw[hl l h]
  exact h4
 |arena rw' bs H=>
  obtain⟨h1,h2,h3⟩:=ha
  simp only[Ent.at,h0]
  exact⟨h1,h2,fun κb hb=>by rw[h κb hb];exact h3 κb hb⟩
 |apt κa v=>
  obtain⟨h1,h2⟩:=ha
  simp only[Ent.at,h0,h κa (by simp[Ent.keys])]
  exact⟨h1,h2⟩
 |wv κa v=>
  obtain⟨h1,h2⟩:=ha
  simp only[Ent.at,h0,h κa (by simp[Ent.keys])]
  exact⟨h1,h2⟩
 |ptn κa v=>
  obtain⟨h1,h2⟩:=ha
  simp only[Ent.at,h0,h κa (by simp[Ent.keys])]
  exact⟨h1,h2⟩
 |dead=>trivial
 |_=>simp only[Ent.at,h0] at*;exact ha
theorem RowsK.cells_len (r:RowsK):r.cells.length=r.len*r.sz:=by
 cases r with
 |bs k ll=>simp[RowsK.cells,RowsK.len,RowsK.sz]
 |rc ll=>
  simp only[RowsK.cells,RowsK.len,RowsK.sz]
  induction ll with
  |nil=>rfl
  |cons x r ih=>simp only[List.flatMap_cons,List.length_append,List.length_cons,List.length_nil,ih];omega
 |gn sz ll=>
  simp only[RowsK.cells,RowsK.len,RowsK.sz]
  induction ll with
  |nil=>simp
  |cons x r ih=>simp only[List.flatMap_cons,List.length_append,List.length_cons,List.length_map,List.length_range,ih,Nat.add_mul,Nat.one_mul];omega
theorem XD (a:Addr) (i:Nat):(a.add i).block=a.block:=by unfold Addr.add;split<;>rfl
theorem WO {v:Value} {b:Nat} (h:YP v=some b):Jw v=some b:=by
 unfold YP at h
 split at h
 ·exact h
 ·exact h
 ·cases h
theorem JcU {a:Addr} {n cap:Nat} (h:0<cap):YP (.slice (some a) n cap)=some a.block:=by
 obtain⟨c,rfl⟩:∃c,cap=c+1:=⟨cap- 1,by omega⟩
 rfl
theorem JbL (o:Option Addr) (n:Nat):YP (.slice o n 0)=none:=by
 cases o<;>rfl
theorem RdI.keep {w w':World} {v:Value} {k:IntKind} {l:List Int} (hs:w.heap.size≤w'.heap.size) (hb:∀b,YP v=some b→w'.heap[b]? =w.heap[b]?) (h:RdI w v k l):RdI w' v k l:=by
 rcases h with ha|⟨a,cap,h1,h2,h3,h4,h5,h6⟩
 ·exact .inl ha
 ·refine .inr ⟨a,cap,h1,h2,h3,by omega,h5,fun i hi=> ?_⟩
  rw[World.cell?_of_block (w:=w)]
  ·exact h6 i hi
  ·rw[XD]
   exact hb a.block (by rw[h1];exact JcU (by omega))
theorem Inner.iff {w w':World} {v:Value} {n:Nat} (hb:∀b,Jw v=some b→w'.heap[b]? =w.heap[b]?) (b:Nat):Inner w' v n b↔Inner w v n b:=by
 have:∀a len cap j,v= .slice (some a) len cap→w'.cell? (a.add j)=w.cell? (a.add j):=fun a len cap j h=>by
  rw[World.cell?_of_block (w:=w)]
  rw[XD]
  exact hb a.block (by simp[h,Jw])
 constructor
 ·rintro ⟨a,len,cap,j,u,h1,h2,h3,h4⟩
  exact⟨a,len,cap,j,u,h1,h2,(this a len cap j h1).symm.trans h3,h4⟩
 ·rintro ⟨a,len,cap,j,u,h1,h2,h3,h4⟩
  exact⟨a,len,cap,j,u,h1,h2,(this a len cap j h1).trans h3,h4⟩
theorem RdR.keep {w w':World} {v:Value} {r:RowsK} (hs:w.heap.size≤w'.heap.size) (hb:∀b,Jw v=some b∨Inner w v (r.len*r.sz) b→w'.heap[b]? =w.heap[b]?) (h:RdR w v r):RdR w' v r:=by
 rcases h with ha|⟨a,cap,h1,h2,h3,h4,h5,h6⟩
 ·exact .inl ha
 ·refine .inr ⟨a,cap,h1,h2,h3,by omega,h5,fun j d hd=> ?_⟩
  obtain⟨u,g1,g2,g3⟩:=h6 j d hd
  refine⟨u,?_,g2,?_⟩
  ·rw[World.cell?_of_block (w:=w)]
   ·exact g1
   ·rw[XD]
    exact hb a.block (.inl (by simp[h1,Jw]))
  ·cases d with
   |int k n=>exact g3
   |bytes k l=>
    refine RdI.keep hs (fun b hb'=>hb b (.inr ⟨a,r.len,cap,j,u,h1,?_,g1,hb'⟩)) g3
    rw[←RowsK.cells_len]
    rcases Nat.lt_or_ge j r.cells.length with h'|h'
    ·exact h'
    ·rw[List.getElem?_eq_none h'] at hd;cases hd
   |bools l=>
    refine RdB.keep hs (fun b hb'=>hb b (.inr ⟨a,r.len,cap,j,u,h1,?_,g1,hb'⟩)) g3
    rw[←RowsK.cells_len]
    rcases Nat.lt_or_ge j r.cells.length with h'|h'
    ·exact h'
    ·rw[List.getElem?_eq_none h'] at hd;cases hd
   |bool b=>exact g3
   |str s=>exact g3
theorem own_keep {w w':World} {e:TypeId} {sz:Nat} {v:Value} {n:Nat} {xs:List Value} (hb:∀b,Jw v=some b→w'.heap[b]? =w.heap[b]?) (h:w.ownsRow 0 e sz v n xs):w'.ownsRow 0 e sz v n xs:=by
 refine⟨h.1,?_⟩
 rcases h.2 with h|⟨g,cap,cur,h1,h2,h3,h4⟩
 ·exact .inl h
 ·exact .inr ⟨g,cap,cur,h1,h2,(hb g (by simp[h1,Jw])).trans h3,h4⟩
theorem InO.iff {w w':World} {e:TypeId} {sz n f:Nat} {v:Value} (hb:∀b,Jw v=some b→w'.heap[b]? =w.heap[b]?) (b:Nat):InO w' e sz v n f b↔InO w e sz v n f b:=by
 constructor
 ·rintro ⟨xs,j,u,h1,h2⟩
  exact⟨xs,j,u,own_keep (fun b hb'=>(hb b hb').symm) h1,h2⟩
 ·rintro ⟨xs,j,u,h1,h2⟩
  exact⟨xs,j,u,own_keep hb h1,h2⟩
theorem Jdq {w:World} {e:TypeId} {sz n:Nat} {v:Value} {xs ys:List Value} (h1:w.ownsRow 0 e sz v n xs) (h2:w.ownsRow 0 e sz v n ys):xs=ys:=by
 rcases h1.2 with⟨a,b⟩|⟨g,cap,cur,a1,_,a3,_,_,_,a7⟩
 ·have l1:=h1.1
  have l2:=h2.1
  rw[b,Nat.zero_mul] at l1 l2
  rw[List.length_eq_zero_iff.1 l1,List.length_eq_zero_iff.1 l2]
 ·rcases h2.2 with⟨a,b⟩|⟨g',cap',cur',b1,_,b3,_,_,_,b7⟩
  ·rw[a1] at a;cases a
  ·rw[a1] at b1
   simp only[Value.slice.injEq,Option.some.injEq,Addr.mk.injEq,and_true,true_and] at b1
   obtain⟨rfl,rfl⟩:=b1
   rw[a3] at b3
   simp only[Option.some.injEq,Obj.cells.injEq,and_true] at b3
   subst b3
   rw[←a7,←b7]
theorem DL.own_keep {w w':World} {eb:TypeId} {u:Value} {d:DL} (hb:∀b,Jw u=some b→w'.heap[b]? =w.heap[b]?) (h:d.own w eb u):d.own w' eb u:=by
 cases d with
 |int k n=>exact h
 |bytes k l=>exact Gw.own_keep hb h
 |bools l=>exact Gw.own_keep hb h
 |bool b=>exact h
 |str s=>exact h
theorem OwnF.keep {w w':World} {e:TypeId} {v:Value} {xs:List Value} (hb:∀b,Jw v=some b→w'.heap[b]? =w.heap[b]?) (h:OwnF w e v xs):OwnF w' e v xs:=by
 rcases h with h|⟨g,off,cap,cur,h1,h2,h3⟩
 ·exact .inl h
 ·exact .inr ⟨g,off,cap,cur,h1,(hb g (by simp[h1,Jw])).trans h2,h3⟩
theorem ErrAt.keep {B:Nat→Prop} {w w':World} {v:Value} {tp ts te:TypeId} {n:Int} (hb:∀b,Jly v=some b→w'.heap[b]? =w.heap[b]?) (h:ErrAt B w v tp ts te n):ErrAt B w' v tp ts te n:=by
 rcases h with h|⟨h,b,s,f,h1,h2,h3⟩
 ·exact .inl h
 ·exact .inr ⟨h,b,s,f,h1,h2,(hb b (by simp[h1,Jly])).trans h3⟩
theorem ErrAt.mono {B B':Nat→Prop} (hB:∀b,B b→B' b) {w:World} {v:Value} {tp ts te:TypeId} {n:Int} (h:ErrAt B w v tp ts te n):ErrAt B' w v tp ts te n:=by
 rcases h with h|⟨h,b,s,f,h1,h2,h3⟩
 ·exact .inl h
 ·exact .inr ⟨h,b,s,f,h1,hB b h2,h3⟩
theorem ErrAt.lt {B:Nat→Prop} {w:World} {v:Value} {tp ts te:TypeId} {n:Int} (h:ErrAt B w v tp ts te n) {b:Nat} (hb:Jly v=some b):b<w.heap.size∧B b:=by
 rcases h with h|⟨h,b',s,f,h1,h2,h3⟩
 ·simp[h.2,Jly] at hb
 ·simp[h1,Jly] at hb;subst hb;exact⟨(Array.getElem?_eq_some_iff.1 h3).1,h2⟩
theorem Ent.at_keep {B:Nat→Prop} {γ:Nat→Value} {w w':World} {κ:Nat} {e:Ent} (hs:w.heap.size≤w'.heap.size)
  (hb:∀b,e.foot γ w κ b→w'.heap[b]? =w.heap[b]?) (ha:e.at B γ w κ):e.at B γ w' κ:=by
 cases e with
 |blk ty l=>
  obtain⟨b,h1,h2,h3,h4⟩:=ha
  exact⟨b,h1,h2,(hb b (by simp[Ent.foot,h1,Jw])).trans h3,h4⟩
 |rblk ty l=>
  obtain⟨b,fr,h1,h3,h4⟩:=ha
  exact⟨b,fr,h1,(hb b (by simp[Ent.foot,h1,Jw])).trans h3,h4⟩
 |rd k l=>exact RdI.keep hs hb ha
 |rdx k l=>exact⟨RdI.keep hs hb ha.1,ha.2⟩
 |own e k l=>exact⟨own_keep hb ha.1,ha.2⟩
 |rows r=>exact RdR.keep hs hb ha
 |orows e r=>
  obtain⟨h1,⟨xs,h2,h3⟩,h4,h5⟩:=ha
  have hm:∀b,Jw (γ κ)=some b→w'.heap[b]? =w.heap[b]? :=fun b hb'=>hb b (.inl hb')
  exact⟨RdR.keep hs hb h1,⟨xs,own_keep hm h2,h3⟩,h4,fun b hi=>h5 b ((Inner.iff hm b).1 hi)⟩
 |prows e r=>
  obtain⟨h1,⟨xs,h2,h3⟩,h4,h5⟩:=ha
  have hm:∀b,Jw (γ κ)=some b→w'.heap[b]? =w.heap[b]? :=fun b hb'=>hb b (.inl hb')
  exact⟨RdR.keep hs hb h1,⟨xs,own_keep hm h2,h3⟩,h4,fun b hi=>h5 b ((Inner.iff hm b).1 hi)⟩
 |frows e eb m r=>
  obtain⟨xs,h1,h2,h3,h4,h5,h6⟩:=ha
  have hm:∀b,Jw (γ κ)=some b→w'.heap[b]? =w.heap[b]? :=fun b hb'=>hb b (.inl hb')
  refine⟨xs,own_keep hm h1,h2,h3,fun j d hj hd=> ?_,h5,h6⟩
  obtain⟨u,g1,g2⟩:=h4 j d hj hd
  exact⟨u,g1,DL.own_keep (fun b hb'=>hb b (.inr ⟨xs,j,u,h1,hj,g1,hb'⟩)) g2⟩
 |lit e n l=>
  obtain⟨b,h1,h2,h3,h4,h5⟩:=ha
  exact⟨b,h1,h2,h3,(hb b (by simp[Ent.foot,h1,Jw])).trans h4,h5⟩
 |arena rw' bs H=>exact⟨Ar.keep hb ha.1,ha.2⟩
 |apt κa v=>exact ha
 |wv κa v=>exact ha
 |ptn κa v=>exact ha
 |rdb l=>exact RdB.keep hs hb ha
 |rdbx l=>exact⟨RdB.keep hs hb ha.1,ha.2⟩
 |ownb e l=>exact⟨own_keep hb ha.1,ha.2⟩
 |err tp ts te n=>exact ErrAt.keep hb ha
 |ownf e k l=>exact⟨OwnF.keep hb ha.1,ha.2⟩
 |owni e sz l=>exact⟨own_keep hb ha.1,ha.2⟩
 |rdn n=>exact ha
 |gv b v=>simp only[Ent.at,World.cell?] at ha ⊢;rw[hb b rfl];exact ha
 |dead=>trivial
theorem Ent.at_mono {B B':Nat→Prop} (hB:∀b,B b→B' b) {γ:Nat→Value} {w:World} {κ:Nat} {e:Ent} (ha:e.at B γ w κ):e.at B' γ w κ:=by
 cases e with
 |blk ty l=>obtain⟨b,h1,h2,h3⟩:=ha;exact⟨b,h1,hB b h2,h3⟩
 |own e k l=>exact⟨ha.1,fun b hb=>hB b (ha.2 b hb)⟩
 |prows e r=>exact⟨ha.1,ha.2.1,fun b hb=>hB b (ha.2.2.1 b hb),ha.2.2.2⟩
 |orows e r=>exact⟨ha.1,ha.2.1,fun b hb=>hB b (ha.2.2.1 b hb),fun b hb=>⟨hB b (ha.2.2.2 b hb).1,(ha.2.2.2 b hb).2⟩⟩
 |frows e eb m r=>
  obtain⟨xs,h1,h2,h3,h4,h5,h6⟩:=ha
  exact⟨xs,h1,h2,fun b hb=>hB b (h3 b hb),h4,fun j u b a1 a2 a3=>⟨hB b (h5 j u b a1 a2 a3).1,(h5 j u b a1 a2 a3).2⟩,h6⟩
 |lit e n l=>obtain⟨b,h1,h2,h3⟩:=ha;exact⟨b,h1,hB b h2,h3⟩
 |arena rw' bs H=>exact⟨ha.1,fun hr b hb=>hB b (ha.2.1 hr b hb),ha.2.2⟩
 |ownb e l=>exact⟨ha.1,fun b hb=>hB b (ha.2 b hb)⟩
 |err tp ts te n=>exact ErrAt.mono hB ha
 |ownf e k l=>exact⟨ha.1,fun b hb=>hB b (ha.2 b hb)⟩
 |owni e sz l=>exact⟨ha.1,fun b hb=>hB b (ha.2 b hb)⟩
 |_=>exact ha
theorem Ent.foot_keep {γ:Nat→Value} {w w':World} {κ:Nat} {e:Ent} (hb:∀b,Jw (γ κ)=some b→e.foot γ w κ b→w'.heap[b]? =w.heap[b]?) (b:Nat):e.foot γ w' κ b↔e.foot γ w κ b:=by
 cases e<;>first
  |exact Iff.rfl
  |(simp only [Ent.foot];rw[Inner.iff fun b hb'=>hb b hb' (.inl hb')])
  |(simp only [Ent.foot];rw[InO.iff fun b hb'=>hb b hb' (.inl hb')])
theorem Ent.foot_congr {γ γ':Nat→Value} {w:World} {κ:Nat} {e:Ent} (h:γ' κ=γ κ) (b:Nat):e.foot γ' w κ b↔e.foot γ w κ b:=by
 cases e<;>simp only[Ent.foot,h]
def Ent.plain:Ent→Bool
 | .arena ..=>false
 |_=>true
theorem Ent.reg_foot {γ:Nat→Value} {w:World} {κ:Nat} {e:Ent} {b:Nat} (h:e.reg γ w κ b):e.foot γ w κ b:=by
 cases e with
 |arena rw' bs H=>cases rw' with
  |true=>exact h
  |false=>exact h.elim
 |_=>first
  |exact h
  |exact .inl h
  |exact h.elim
theorem Ent.reg_main {γ:Nat→Value} {w:World} {κ:Nat} {e:Ent} (he:e.mut=true) (hp:e.plain=true) {b:Nat} (h:Jw (γ κ)=some b):e.reg γ w κ b:=by
 cases e<;>first
  |exact h
  |exact .inl h
  |(cases hp;done)
  |(cases he;done)
theorem Ent.reg_congr {γ γ':Nat→Value} {w:World} {κ:Nat} {e:Ent} (h:γ' κ=γ κ) (b:Nat):e.reg γ' w κ b↔e.reg γ w κ b:=by
 cases e with
 |arena rw' bs H=>cases rw'<;>simp only[Ent.reg,h]
 |_=>simp only[Ent.reg,h]
theorem Ent.reg_keep {γ:Nat→Value} {w w':World} {κ:Nat} {e:Ent} (hb:∀b,Jw (γ κ)=some b→e.foot γ w κ b→w'.heap[b]? =w.heap[b]?) (b:Nat):e.reg γ w' κ b↔e.reg γ w κ b:=by
 cases e with
 |arena rw' bs H=>cases rw'<;>exact Iff.rfl
 |_=>first
  |exact Iff.rfl
  |(simp only [Ent.reg];rw[InO.iff fun b hb'=>hb b hb' (.inl hb')])
theorem RdI.lt {w:World} {v:Value} {k:IntKind} {l:List Int} (h:RdI w v k l) {b:Nat} (hb:YP v=some b):b<w.heap.size:=by
 rcases h with⟨⟨o,h⟩,_⟩|⟨a,cap,h1,_,_,h4,_⟩
 ·rw[h,JbL] at hb;cases hb
 ·have:=WO hb
  simp[h1,Jw] at this;subst this;exact h4
theorem RdR.lt {w:World} {v:Value} {r:RowsK} (h:RdR w v r) {b:Nat} (hb:Jw v=some b∨Inner w v (r.len*r.sz) b):b<w.heap.size:=by
 rcases h with⟨h,_⟩|⟨a,cap,h1,_,_,h4,_,h6⟩
 ·rcases hb with hb|⟨a,len,cap,j,u,g1,_⟩
  ·simp[h,Jw] at hb
  ·rw[h] at g1;cases g1
 ·rcases hb with hb|⟨a',len,cap',j,u,g1,g2,g3,g4⟩
  ·simp[h1,Jw] at hb;subst hb;exact h4
  ·rw[h1] at g1
   simp only[Value.slice.injEq,Option.some.injEq] at g1
   obtain⟨rfl,_,_⟩:=g1
   rw[←RowsK.cells_len] at g2
   obtain⟨u',q1,_,q3⟩:=h6 j _ (List.getElem?_eq_getElem g2)
   rw[g3] at q1
   cases q1
   generalize r.cells[j]=d at q3
   cases d with
   |int k n=>simp only[DL.at] at q3;subst q3;simp[YP] at g4
   |bytes k l=>exact RdI.lt q3 g4
   |bool k=>simp only[DL.at] at q3;subst q3;simp[YP] at g4
   |str k=>simp only[DL.at] at q3;subst q3;simp[YP] at g4
   |bools l=>exact RdB.lt q3 g4
theorem Ent.foot_lt {B:Nat→Prop} {γ:Nat→Value} {w:World} {κ:Nat} {e:Ent} (ha:e.at B γ w κ):∀b,e.foot γ w κ b→b<w.heap.size:=by
 intro b hb
 cases e with
 |blk ty l=>
  obtain⟨b',h1,_,h3,_⟩:=ha
  simp[Ent.foot,h1,Jw] at hb
  subst hb
  exact(Array.getElem?_eq_some_iff.1 h3).1
 |rblk ty l=>
  obtain⟨b',fr,h1,h3,_⟩:=ha
  simp[Ent.foot,h1,Jw] at hb
  subst hb
  exact(Array.getElem?_eq_some_iff.1 h3).1
 |rd k l=>exact RdI.lt ha hb
 |rdx k l=>exact RdI.lt ha.1 hb
 |own e k l=>
  rcases ha.1.2 with⟨h,_⟩|⟨g,cap,cur,h1,_,h3,_⟩
  ·simp[Ent.foot,h,Jw] at hb
  ·simp[Ent.foot,h1,Jw] at hb;subst hb;exact(Array.getElem?_eq_some_iff.1 h3).1
 |rows r=>exact RdR.lt ha hb
 |orows e r=>exact RdR.lt ha.1 hb
 |prows e r=>exact RdR.lt ha.1 hb
 | frows e eb m r=>
  obtain⟨xs,h1,h2,h3,h4,h5,h6⟩:=ha
  have olt:∀{e:TypeId} {sz n:Nat} {v:Value} {xs:List Value} {b:Nat},w.ownsRow 0 e sz v n xs→Jw v=some b→b<w.heap.size:=fun h hb=>by
   rcases h.2 with⟨h,_⟩|⟨g,cap,cur,h1,_,h3,_⟩
   ·simp[h,Jw] at hb
   ·simp[h1,Jw] at hb;subst hb;exact(Array.getElem?_eq_some_iff.1 h3).1
  rcases hb with hb|⟨ys,j,u,q1,q2,q3,q4⟩
  ·exact olt h1 hb
  ·obtain rfl:=Jdq h1 q1
   have hj:j<r.cells.length:=by rw[RowsK.cells_len,←h1.1];exact(List.getElem?_eq_some_iff.1 q3).1
   obtain⟨u',g1,g2⟩:=h4 j _ q2 (List.getElem?_eq_getElem hj)
   rw[q3] at g1
   cases g1
   generalize r.cells[j]=d at g2
   cases d with
   |int k n=>simp only[DL.own] at g2;subst g2;simp[Jw] at q4
   |bytes k l=>exact olt g2 q4
   |bool k=>simp only[DL.own] at g2;subst g2;simp[Jw] at q4
   |str k=>simp only[DL.own] at g2;subst g2;simp[Jw] at q4
   |bools l=>exact olt g2 q4
 |lit e n l=>
  obtain⟨b',h1,_,_,h3,_⟩:=ha
  simp[Ent.foot,h1,Jw] at hb
  subst hb
  exact(Array.getElem?_eq_some_iff.1 h3).1
 |arena rw' bs H=>exact Ar.lt ha.1 hb
 |apt κa v=>exact hb.elim
 |wv κa v=>exact hb.elim
 |ptn κa v=>exact hb.elim
 |rdb l=>exact RdB.lt ha hb
 |rdbx l=>exact RdB.lt ha.1 hb
 |ownb e l=>
  rcases ha.1.2 with⟨h,_⟩|⟨g,cap,cur,h1,_,h3,_⟩
  ·simp[Ent.foot,h,Jw] at hb
  ·simp[Ent.foot,h1,Jw] at hb;subst hb;exact(Array.getElem?_eq_some_iff.1 h3).1
 |err tp ts te n=>exact(ErrAt.lt ha hb).1
 |rdn n=>exact hb.elim
 |owni e sz l=>
  rcases ha.1.2 with⟨h,_⟩|⟨g,cap,cur,h1,_,h3,_⟩
  ·simp[Ent.foot,h,Jw] at hb
  ·simp[Ent.foot,h1,Jw] at hb;subst hb;exact(Array.getElem?_eq_some_iff.1 h3).1
 |ownf e k l=>
  rcases ha.1 with⟨h,_⟩|⟨g,off,cap,cur,h1,h2,_⟩
  ·simp[Ent.foot,h,Jw] at hb
  ·simp[Ent.foot,h1,Jw] at hb;subst hb;exact(Array.getElem?_eq_some_iff.1 h2).1
 |gv b' v=>
  obtain rfl:b'=b:=hb
  rcases Nat.lt_or_ge b' w.heap.size with h|h
  ·exact h
  ·simp[Ent.at,World.cell?,Array.getElem?_eq_none h] at ha
 |dead=>exact hb.elim
theorem Ent.reg_in {B:Nat→Prop} {γ:Nat→Value} {w:World} {κ:Nat} {e:Ent} (ha:e.at B γ w κ) {b:Nat} (hb:e.reg γ w κ b):B b:=by
 cases e with
 |blk ty l=>obtain⟨b',h1,h2,_⟩:=ha;simp[Ent.reg,h1,Jw] at hb;subst hb;exact h2
 |own e k l=>exact ha.2 b hb
 |ownb e l=>exact ha.2 b hb
 |ownf e k l=>exact ha.2 b hb
 |owni e sz l=>exact ha.2 b hb
 |orows e r=>exact ha.2.2.1 b hb
 |prows e r=>exact ha.2.2.1 b hb
 | frows e eb m r=>
  obtain⟨xs,x1,x2,x3,x4,x5,x6⟩:=ha
  rcases hb with hb|⟨ys,j,u,q1,q2,q3,q4⟩
  ·exact x3 b hb
  ·obtain rfl:=Jdq x1 q1
   exact(x5 j u b q2 q3 q4).1
 |lit e n l=>obtain⟨b',h1,h2,_⟩:=ha;simp[Ent.reg,h1,Jw] at hb;subst hb;exact h2
 |arena rw' bs H=>cases rw' with
  |true=>exact ha.2.1 rfl b hb
  |false=>exact hb.elim
 |_=>exact hb.elim
theorem Ent.mut_in {B:Nat→Prop} {γ:Nat→Value} {w:World} {κ:Nat} {e:Ent} (hm:e.mut=true) (hp:e.plain=true) (ha:e.at B γ w κ) {b:Nat} (hb:Jw (γ κ)=some b):B b:=
 Ent.reg_in ha (Ent.reg_main hm hp hb)
theorem Jla {w:World} {s:Value} {H:AH} (h:Ar w s H):Jw s=none:=by
 obtain⟨l,rfl⟩:=h.enc
 rfl
theorem Ent.main_reg {B:Nat→Prop} {γ:Nat→Value} {w:World} {κ:Nat} {e:Ent} (hm:e.mut=true) (ha:e.at B γ w κ) {b:Nat} (hb:Jw (γ κ)=some b):e.reg γ w κ b:=by
 cases hp:e.plain with
 |true=>exact Ent.reg_main hm hp hb
 | false=>
  cases e<;>first
   |(cases hp;done)
   |(rw [Jla ha.1] at hb;cases hb)
end Go.Gw

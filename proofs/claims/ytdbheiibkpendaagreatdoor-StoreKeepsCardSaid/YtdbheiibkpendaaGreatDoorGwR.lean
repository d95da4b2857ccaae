/- The walk's engine, part 5c: a literal of slices. -/
import Derived.Test.YtdbheiibkpendaaGreatDoorGwS
namespace Go.Gw
open Go.RowKit
variable {P:Program} {T:TypeId→Option TD} {B:Nat→Prop} {N:Nat} {w0:W0} {γ:Nat→Value} {σ:Stt} {a:Act} {w:World}
def JlQ (σ:Stt) (γ:Nat→Value) (w:World) (k:IntKind) (u:Value) (l:List Int):Prop:=
 u.oneCell'=true∧u.cells.size=1∧u.cells.toList=[u]∧RdI w u k l∧∀b,YP u=some b→∃κ e,σ (.h κ)=some (.e e)∧(∀w':World,e.foot γ w' κ b)∧e.mut=false
def Jm0 (σ:Stt) (ρ:Operand→Option SV) (ps:List (Nat×Operand)):Prop:=∀p∈ps,∀κ,ρ p.2=some (.v (.one (.slc κ)))→∀e k l,Jh σ κ≠some (.own e k l)
theorem Jln (I:Inv B N w0 γ σ a w) {k:IntKind} {x:Operand} {l:List Int} (hc:∀κ,Jg σ x=some (.v (.one (.slc κ)))→∀e k l,Jh σ κ≠some (.own e k l)) (h:JiX k (Jg σ) (Jh σ) x=some l):JlQ σ γ w k (a.eval x) l:=by
 unfold JiX at h
 split at h
 ·rename_i hx
  cases h
  have e:a.eval x= .slice none 0 0:=(I.eval hx).1
  rw[e]
  exact⟨rfl,rfl,rfl,.inl ⟨⟨none,rfl⟩,rfl⟩,fun b hb=>by simp[YP] at hb⟩
 ·rename_i κ hx
  have e:a.eval x=γ κ:=(I.eval hx).1
  have fin:∀(e':Ent) (k':IntKind) (l':List Int),Jh σ κ=some e'→e'.mut=false→(∀b,YP (γ κ)=some b→∀w':World,e'.foot γ w' κ b)→RdI w (γ κ) k' l'→(bif keq k k' then some l' else none)=some l→JlQ σ γ w k (a.eval x) l:=by
   intro e' k' l' h1 h2 h3 h4 h5
   cases hc:keq k k' with
   |false=>rw[hc] at h5;cases h5
   | true=>
    rw[hc] at h5
    cases h5
    obtain rfl:=WF hc
    rw[e]
    have hs:(γ κ).cells.size=1∧(γ κ).cells.toList=[γ κ]:=by
     rcases h4 with⟨⟨o,hv⟩,_⟩|⟨ad,cap,hv,_⟩<;>rw[hv]<;>exact⟨rfl,rfl⟩
    exact⟨I.cell1 κ,hs.1,hs.2,h4,fun b hb=>⟨κ,e',(I.key h1).1,h3 b hb,h2⟩⟩
  split at h
  ·rename_i k' l' hk
   exact fin _ k' l' hk rfl (fun b hb _=>hb) (I.key hk).2 h
  ·rename_i k' l' hk
   exact fin _ k' l' hk rfl (fun b hb _=>hb) (I.key hk).2.1 h
  ·rename_i e' k' l' hk
   exact absurd hk (hc κ hx e' k' l')
  ·cases h
 ·cases h
theorem Jdi (I:Inv B N w0 γ σ a w) {k:IntKind}:∀(ps:List (Nat×Operand)) (i:Nat) (ll:List (List Int)) (pre rest:List Value),pre.length=i→rest.length=ps.length→Jm0 σ (Jg σ) ps→QX k (Jg σ) (Jh σ) i ps=some ll→
  ∃vs:List Value,Instr.fill (fun i=>some (i*1,1)) (pre++rest).toArray (ps.map fun p=>(p.1,a.eval p.2))=some (pre++vs).toArray∧vs.length=ll.length∧ps.length=ll.length∧
   ∀(j:Nat) (l:List Int),ll[j]? =some l→∃u,vs[j]? =some u∧JlQ σ γ w k u l
 |[],i,ll,pre,rest,hi,hr,_,h=>by
  simp only[QX,Option.some.injEq] at h
  subst h
  have:rest=[]:=List.length_eq_zero_iff.1 hr
  subst this
  exact⟨[],rfl,rfl,rfl,fun j l h=>by simp at h⟩
 | (j, x)::r,i,ll,pre,rest,hi,hr,hc,h=>by
  simp only[QX] at h
  cases hb:Nat.beq i j with
  |false=>rw[hb] at h;cases h
  | true=>
   rw[hb] at h
   simp only[cond_true] at h
   obtain rfl:=Nat.eq_of_beq_eq_true hb
   cases hx:JiX k (Jg σ) (Jh σ) x with
   |none=>rw[hx] at h;cases h
   | some l=>
    rw[hx,Option.bind_some] at h
    cases hs:QX k (Jg σ) (Jh σ) (i+1) r with
    |none=>rw[hs] at h;cases h
    | some ls=>
     rw[hs,Option.bind_some,Option.some.injEq] at h
     subst h
     cases rest with
     |nil=>simp at hr
     | cons y rest'=>
      have hv:=Jln I (hc (i,x) (by simp)) hx
      obtain⟨vs,h1,h2,h3,h4⟩:=Jdi I r (i+1) ls (pre++[a.eval x]) rest' (by simp[hi]) (by simpa using hr) (fun p hp=>hc p (List.mem_cons_of_mem _ hp)) hs
      refine⟨a.eval x::vs,?_,by simp[h2],by simp[h3],fun j l' hj=> ?_⟩
      ·have e1:pre++y::rest'=pre++([y]++rest'):=rfl
       rw[e1,List.map_cons,XI (fun i=>some (i*1,1)) (off:=i*1) (sz:=1) rfl (a.eval x) pre [y] rest' _ (by omega) rfl hv.2.1,hv.2.2.1]
       rw[List.append_assoc] at h1
       rw[h1]
       simp
      ·cases j with
       |zero=>simp at hj;subst hj;exact⟨_,rfl,hv⟩
       |succ j=>simp at hj;obtain⟨u,g1,g2⟩:=h4 j l' hj;exact⟨u,by simpa using g1,g2⟩
theorem Inv.alias2 (I:Inv B N w0 γ σ a w) {κ:Nat} {e:Ent} {v:Value} (hf:NoKey κ σ) (hv:v.oneCell'=true) (hm:e.mut=false)
  (ha:e.at B (fun x=>if x=κ then v else γ x) w κ)
  (hft:∀b,e.foot (fun x=>if x=κ then v else γ x) w κ b→(∃κ1 e1,σ (.h κ1)=some (.e e1)∧e1.foot γ w κ1 b∧(e1.mut=true→¬e1.reg γ w κ1 b))∨∀κ1 e1,σ (.h κ1)=some (.e e1)→e1.mut=true→¬e1.reg γ w κ1 b):
  Inv B N w0 (fun x=>if x=κ then v else γ x) (Wl σ [(κ,e)]) a w:=by
 have agree:∀l c,σ l=some c→∀κ'∈c.keys,(if κ'=κ then v else γ κ')=γ κ':=fun l c hc κ' hκ=>if_neg fun e'=>hf.2.1 l c hc (by rw[←e'];exact hκ)
 have old:∀κ' e',σ (.h κ')=some (.e e')→(if κ'=κ then v else γ κ')=γ κ':=fun κ' e' he=>if_neg fun e1=>by
  have:=hf.1
  rw[←e1,he] at this
  cases this
 refine⟨I.size,I.defers,fun t x hx=> ?_,fun κ' e' he=> ?_,fun κ1 e1 κ2 e2 he1 he2 hne hm1 b hb'=> ?_,I.below,I.top,Yy I.cell1 hv,fun κ' u hu=> ?_⟩
 ·rw[WP] at hx
  have:=I.slot t x hx
  exact⟨this.1.trans (SV.den_congr (fun κ hκ=>agree _ _ hx κ hκ)).symm,this.2⟩
 ·rcases Vw σ _ κ' _ he with⟨e1,h2,h3⟩|⟨h2,h3⟩
  ·cases h3
   simp only[List.mem_singleton,Prod.mk.injEq] at h2
   obtain⟨rfl,rfl⟩:=h2
   exact ha
  ·exact Ent.at_congr (old κ' e' h3) (fun κ' hκ'=>agree _ _ h3 κ' hκ') (I.ent κ' e' h3)
 ·rcases Vw σ _ κ1 _ he1 with⟨x1,h2,h3⟩|⟨h2,h3⟩
  ·cases h3
   simp only[List.mem_singleton,Prod.mk.injEq] at h2
   obtain⟨rfl,rfl⟩:=h2
   rw[hm] at hm1;cases hm1
  ·replace hb':e1.reg γ w κ1 b:=(Ent.reg_congr (old κ1 e1 h3) b).1 hb'
   rcases Vw σ _ κ2 _ he2 with⟨x2,h4,h5⟩|⟨h4,h5⟩
   ·cases h5
    simp only[List.mem_singleton,Prod.mk.injEq] at h4
    obtain⟨rfl,rfl⟩:=h4
    intro h6
    rcases hft b h6 with⟨κ3,e3,g1,g2,g3⟩|g
    ·by_cases h7:κ1=κ3
     ·subst h7
      rw[h3] at g1;cases g1
      exact g3 hm1 hb'
     ·exact I.apart κ1 e1 κ3 e3 h3 g1 h7 hm1 b hb' g2
    ·exact g κ1 e1 h3 hm1 hb'
   ·rw[Ent.foot_congr (old κ2 e2 h5)]
    exact I.apart κ1 e1 κ2 e2 h3 h5 hne hm1 b hb'
 ·obtain⟨g1,g2⟩:=I.fixed κ' u hu
  have:=hf.2.2
  exact⟨(if_neg (by omega)).trans g1,g2⟩
theorem Jfh (I:Inv B N w0 γ σ a w) {t e e2:TypeId} {k:IntKind} (hT:(TD.sliceR e 1).ok P t) (hE:(TD.slice e2 k).ok P e) {κ':Nat} (hf:NoKey κ' σ) {n:Nat} (hn:n≤16777216) {ps:List (Nat×Operand)} {ll:List (List Int)}
  (hp:ps.length=n) (hc:Jm0 σ (Jg σ) ps) (hl:QX k (Jg σ) (Jh σ) 0 ps=some ll) {p:List Prop}:
  ∃v w',(Instr.buildSlice t n (ps.map fun q=>(q.1,a.eval q.2)).toArray).run P w= .ok v w'∧Post B N w0 σ a ⟨some (.v (.one (.slc κ'))),[(κ',.rows (.bs k ll))],p⟩ v w':=by
 obtain⟨t1,t2,t3⟩:=hT
 obtain⟨_,_,_,e4⟩:=hE
 obtain⟨i,hi,hsz,hz⟩:∃i,P.info? e=some i∧i.size=1∧i.zero=some (.slice none 0 0):=by
  cases hq:P.info? e with
  |none=>simp[hq] at e4
  |some i=>simp[hq] at e4;exact⟨i,rfl,e4⟩
 have hlen:∀z:Array Value,((Array.range (n*1)).map (z[·%z.size]!)).toList.length=ps.length:=fun z=>by simp[hp]
 obtain⟨vs0,_,k2,k3,k4⟩:=Jdi I ps 0 ll [] (List.replicate ps.length undef) rfl (by simp) hc hl
 have hfill:∀z:Array Value,∃vs:List Value,Instr.fill (fun i=>some (i*1,1)) ((Array.range (n*1)).map (z[·%z.size]!)) (ps.map fun p=>(p.1,a.eval p.2))=some vs.toArray∧vs.length=n∧∀(j:Nat) (l:List Int),ll[j]? =some l→∃u,vs[j]? =some u∧JlQ σ γ w k u l:=fun z=>by
  obtain⟨vs,h1,h2,h3,h4⟩:=Jdi I ps 0 ll [] ((Array.range (n*1)).map (z[·%z.size]!)).toList rfl (hlen z) hc hl
  refine⟨vs,?_,by omega,h4⟩
  rw[List.nil_append,Array.toArray_toList] at h1
  rw[h1];rfl
 obtain⟨vs,hvs,hr⟩:∃vs:List Value,(vs.length=n∧∀(j:Nat) (l:List Int),ll[j]? =some l→∃u,vs[j]? =some u∧JlQ σ γ w k u l)∧
   (Instr.buildSlice t n (ps.map fun q=>(q.1,a.eval q.2)).toArray).run P w= .ok (.slice (some ⟨w.heap.size,0,none⟩) n n) (w.alloc (.cells vs.toArray e)):=by
  have h24:¬(n*1>2^24):=by omega
  have hz':∀w,(zeroValue e).run P w= .ok (.slice none 0 0) w:=fun w=>by simp[zeroValue,typeInfo,hi,hz]
  have hs':∀w,(sizeOf e).run P w= .ok 1 w:=fun w=>by simp[sizeOf,typeInfo,hi,hsz]
  by_cases hn0:n=0
  ·obtain⟨vs,g1,g2,g3⟩:=hfill #[]
   refine⟨vs,⟨g2,g3⟩,?_⟩
   unfold Instr.buildSlice
   simp only[Sem.run_bind,run_underlying t1,Result.andThen_ok,hs',if_neg h24]
   simp only[if_pos (show n*1=0 by omega),Sem.run_bind,Sem.run_pure,Result.andThen_ok,g1]
   simp[newRow]
  ·obtain⟨vs,g1,g2,g3⟩:=hfill (Value.slice none 0 0).cells
   refine⟨vs,⟨g2,g3⟩,?_⟩
   unfold Instr.buildSlice
   simp only[Sem.run_bind,run_underlying t1,Result.andThen_ok,hs',if_neg h24]
   simp only[if_neg (show ¬n*1=0 by omega),Sem.run_bind,hz',Sem.run_pure,Result.andThen_ok,g1]
   simp[newRow]
 have hn':n=ll.length:=by omega
 have hbel:BelowX (Yk γ w fun _=>False) w (w.alloc (.cells vs.toArray e)):=by
  have hg:=World.grownBy_alloc w (.cells vs.toArray e) none
  exact⟨hg.os,hg.tape,hg.output,hg.size,fun b hb _=>hg.block b hb (by simp)⟩
 have I1:Inv B N w0 γ (Wl σ []) a (w.alloc (.cells vs.toArray e)):=I.news (news:=[]) (fun _=>False) (by simp) (by simp) (fun _ _=>rfl) I.cell1 hbel (by simp) (fun p hp=>by simp at hp)
 have I2:Inv B N w0 γ σ a (w.alloc (.cells vs.toArray e)):=I1
 have old:∀j,j<w.heap.size→(w.alloc (.cells vs.toArray e)).heap[j]? =w.heap[j]? :=fun j hj=>hbel.block j hj (by
  rintro (h|⟨_,h,_⟩)
  ·omega
  ·exact h)
 have rowK:∀{u l},JlQ σ γ w k u l→RdI (w.alloc (.cells vs.toArray e)) u k l:=fun h=>RdI.keep hbel.size (fun b hb=>old b (RdI.lt h.2.2.2.1 hb)) h.2.2.2.1
 refine⟨_,_,hr,fun x=>if x=κ' then .slice (some ⟨w.heap.size,0,none⟩) n n else γ x,by simp[SV.den,V1.den,Leaf.cells],⟨trivial,trivial⟩,I2.alias2 hf rfl rfl ?_ ?_⟩
 ·refine .inr ⟨⟨w.heap.size,0,none⟩,n,by show (if κ'=κ' then _ else _)=_;rw[if_pos rfl];simp[RowsK.len,hn'],by simp[RowsK.len,hn'],by simp only[maxLen];omega,by simp,rfl,fun j d hd=> ?_⟩
  simp only[RowsK.cells,List.getElem?_map] at hd
  cases hj:ll[j]? with
  |none=>rw[hj] at hd;cases hd
  |some l=>
   rw[hj] at hd
   simp only[Option.map_some,Option.some.injEq] at hd
   subst hd
   obtain⟨u,g1,g2⟩:=hvs.2 j l hj
   refine⟨u,?_,g2.1,rowK g2⟩
   rw[Jn,Nat.zero_add,World.cell?_alloc_new]
   simpa using g1
 ·intro b hb
  have hb:Jw (.slice (some ⟨w.heap.size,0,none⟩) n n)=some b∨Inner (w.alloc (.cells vs.toArray e)) (.slice (some ⟨w.heap.size,0,none⟩) n n) (ll.length*1) b:=by
   simpa[Ent.foot,RowsK.len,RowsK.sz] using hb
  rcases hb with hb|⟨ad,len,cap,j,u,h1,h2,h3,h4⟩
  ·right
   intro κ1 e1 he1 hm1 hb1
   simp only[Jw,Option.some.injEq] at hb
   have hr:=(Ent.reg_keep (w:=w) (fun b' _ hf'=>old b' (Ent.foot_lt (I.ent κ1 e1 he1) b' hf')) b).1 hb1
   have:=Ent.foot_lt (I.ent κ1 e1 he1) b (Ent.reg_foot hr)
   omega
  ·left
   cases h1
   rw[Jn,Nat.zero_add,World.cell?_alloc_new] at h3
   obtain⟨l,hl'⟩:∃l,ll[j]? =some l:=⟨ll[j]'(by omega),List.getElem?_eq_getElem (by omega)⟩
   obtain⟨u',g1,g2⟩:=hvs.2 j l hl'
   have:u'=u:=by
    have h3':vs[j]? =some u:=by simpa using h3
    rw[g1] at h3';exact Option.some.inj h3'
   subst this
   obtain⟨κ1,e1,q1,q2,q3⟩:=g2.2.2.2.2 b h4
   exact⟨κ1,e1,q1,q2 _,fun h=>by rw[q3] at h;cases h⟩
theorem JfP (σ:Stt):∀(wr:List (Nat×Ent)) (κ:Nat) (e:Ent),(κ,e)∈wr→∃e',(κ,e')∈wr∧Wl σ wr (.h κ)=some (.e e')
 |[],_,_,h=>by simp at h
 | (κ',e')::r,κ,e,h=>by
  by_cases hk:κ'=κ
  ·subst hk
   refine⟨e',by simp,?_⟩
   simp[Wl,JdP,Loc.beq]
  ·have hr:(κ,e)∈r:=by
    rcases List.mem_cons.1 h with h|h
    ·cases h;exact absurd rfl hk
    ·exact h
   obtain⟨e2,g1,g2⟩:=JfP σ r κ e hr
   refine⟨e2,List.mem_cons_of_mem _ g1,?_⟩
   simp only[Wl]
   rw[WH _ _ (by simp[hk])]
   exact g2
theorem XA {ρ:Operand→Option SV} {hp:Nat→Option Ent}:∀{ps:List (Nat×Operand)} {q:Nat×Ent},q∈JbG ρ hp ps→∃e k l,hp q.1=some (.own e k l)∧q.2= .rd k l
 |[],q,h=>by simp[JbG] at h
 | (j,x)::r,q,h=>by
  simp only[JbG] at h
  split at h
  ·split at h
   ·rename_i e k l hk
    rcases List.mem_cons.1 h with h|h
    ·subst h;exact⟨e,k,l,hk,rfl⟩
    ·exact XA h
   ·exact XA h
  ·exact XA h
theorem JfR {ρ:Operand→Option SV} {hp:Nat→Option Ent}:∀{ps:List (Nat×Operand)} {p:Nat×Operand},p∈ps→∀{κ:Nat} {e:TypeId} {k:IntKind} {l:List Int},ρ p.2=some (.v (.one (.slc κ)))→hp κ=some (.own e k l)→(κ,Ent.rd k l)∈JbG ρ hp ps
 |[],p,h,_,_,_,_,_,_=>by simp at h
 | (j,x)::r,p,h,κ,e,k,l,h1,h2=>by
  simp only[JbG]
  rcases List.mem_cons.1 h with h|h
  ·subst h
   simp only[h1,h2]
   simp
  ·have ih:=JfR h h1 h2
   split
   ·split
    ·exact List.mem_cons_of_mem _ ih
    ·exact ih
   ·exact ih
theorem JbF {κ:Nat} {e:Ent} (h:Jh σ κ=some e):σ (.h κ)=some (.e e):=by
 unfold Jh at h
 split at h
 ·rename_i x hx;cases h;exact hx
 ·cases h
theorem Jjr {τ:Stt} {κ:Nat} {e:Ent} (h:τ (.h κ)=some (.e e)):Jh τ κ=some e:=by unfold Jh;rw[h]
theorem Jgz {τ τ':Stt} {κ:Nat} (h:τ (.h κ)=τ' (.h κ)):Jh τ κ=Jh τ' κ:=by unfold Jh;rw[h]
theorem Jgh {κ:Nat}:∀{fr:List (Nat×Ent)},(∀q∈fr,q.1≠κ)→Wl σ fr (.h κ)=σ (.h κ)
 |[],_=>rfl
 |(κ',e)::r,h=>by
  simp only[Wl]
  rw[WH _ _ (by have:=h (κ',e) (by simp);simpa using this)]
  exact Jgh fun q hq=>h q (List.mem_cons_of_mem _ hq)
theorem Inv.frz (I:Inv B N w0 γ σ a w) {fr:List (Nat×Ent)} (h:∀q∈fr,∃e k l,Jh σ q.1=some (.own e k l)∧q.2= .rd k l):Inv B N w0 γ (Wl σ fr) a w:=by
 refine⟨I.size,I.defers,fun t x hx=>I.slot t x (by rw[←WP σ fr t];exact hx),fun κ e he=> ?_,fun κ1 e1 κ2 e2 he1 he2 hne hm1 b hb=> ?_,I.below,I.top,I.cell1,I.fixed⟩
 ·rcases Vw σ fr κ _ he with⟨e1,h2,h3⟩|⟨_,h3⟩
  ·cases h3
   obtain⟨e',k,l,g1,g2⟩:=h _ h2
   simp only at g1 g2
   subst g2
   exact Ql (I.ent κ _ (JbF g1)).1
  ·exact I.ent κ e h3
 ·rcases Vw σ fr κ1 _ he1 with⟨x1,h2,h3⟩|⟨_,h3⟩
  ·cases h3
   obtain⟨e',k,l,g1,g2⟩:=h _ h2
   simp only at g2
   subst g2
   cases hm1
  ·rcases Vw σ fr κ2 _ he2 with⟨x2,h4,h5⟩|⟨_,h5⟩
   ·cases h5
    obtain⟨e',k,l,g1,g2⟩:=h _ h4
    simp only at g1 g2
    subst g2
    exact fun h=>I.apart κ1 e1 κ2 _ h3 (JbF g1) hne hm1 b hb (WO h)
   ·exact I.apart κ1 e1 κ2 e2 h3 h5 hne hm1 b hb
theorem JfU {ps:List (Nat×Operand)} {p:Nat×Operand} (hp:p∈ps) {κ:Nat} (h1:Jg σ p.2=some (.v (.one (.slc κ)))):
  (∃e k l,Jh σ κ=some (.own e k l)∧Jh (Wl σ (JbG (Jg σ) (Jh σ) ps)) κ=some (.rd k l))∨((∀e k l,Jh σ κ≠some (.own e k l))∧Jh (Wl σ (JbG (Jg σ) (Jh σ) ps)) κ=Jh σ κ):=by
 by_cases h:∃e k l,Jh σ κ=some (.own e k l)
 ·obtain⟨e,k,l,hk⟩:=h
  obtain⟨e',g1,g2⟩:=JfP σ _ κ _ (JfR hp h1 hk)
  obtain⟨e2,k2,l2,g3,g4⟩:=XA g1
  simp only at g3 g4
  rw[hk] at g3
  cases g3
  subst g4
  exact .inl ⟨e,k,l,hk,Jjr g2⟩
 ·right
  refine⟨fun e k l hk=>h ⟨e,k,l,hk⟩,Jgz (Jgh fun q hq he=> ?_)⟩
  obtain⟨e,k,l,g1,_⟩:=XA hq
  exact h ⟨e,k,l,by rw[←he];exact g1⟩
theorem Jda (σ:Stt) (fr:List (Nat×Ent)) (x:Operand):Jg (Wl σ fr) x=Jg σ x:=by
 cases x with
 |tmp t=>simp only[Jg,Jaj,WP]
 |_=>rfl
theorem JeM {k:IntKind} {qs:List (Nat×Operand)}:∀{ps:List (Nat×Operand)} {i:Nat},(∀p∈ps,p∈qs)→QX k (Jg (Wl σ (JbG (Jg σ) (Jh σ) qs))) (Jh (Wl σ (JbG (Jg σ) (Jh σ) qs))) i ps=QX k (Jg σ) (Jh σ) i ps
 |[],_,_=>rfl
 | (j,x)::r,i,h=>by
  have e1:JiX k (Jg (Wl σ (JbG (Jg σ) (Jh σ) qs))) (Jh (Wl σ (JbG (Jg σ) (Jh σ) qs))) x=JiX k (Jg σ) (Jh σ) x:=by
   unfold JiX
   rw[Jda]
   split
   ·rfl
   ·rename_i κ hx
    rcases JfU (h (j,x) (by simp)) hx with⟨e,k',l,g1,g2⟩|⟨_,g2⟩
    ·rw[g1,g2]
    ·rw[g2]
   ·rfl
  simp only[QX]
  rw[e1,JeM fun p hp=>h p (List.mem_cons_of_mem _ hp)]
theorem Jg7 (I:Inv B N w0 γ σ a w) {t e e2:TypeId} {k:IntKind} (hT:(TD.sliceR e 1).ok P t) (hE:(TD.slice e2 k).ok P e) {κ':Nat} (hf:NoKey κ' σ) {n:Nat} (hn:n≤16777216) {ps:List (Nat×Operand)} {ll:List (List Int)}
  (hp:ps.length=n) (hl:QX k (Jg σ) (Jh σ) 0 ps=some ll) {p:List Prop}:
  ∃v w',(Instr.buildSlice t n (ps.map fun q=>(q.1,a.eval q.2)).toArray).run P w= .ok v w'∧Post B N w0 σ a ⟨some (.v (.one (.slc κ'))),(κ',.rows (.bs k ll))::JbG (Jg σ) (Jh σ) ps,p⟩ v w':=by
 have I1:=I.frz (fr:=JbG (Jg σ) (Jh σ) ps) fun q hq=>XA hq
 have hf1:NoKey κ' (Wl σ (JbG (Jg σ) (Jh σ) ps)):=by
  refine⟨?_,fun l c hc hk=> ?_,hf.2.2⟩
  ·cases hc:Wl σ (JbG (Jg σ) (Jh σ) ps) (.h κ') with
   |none=>rfl
   | some c=>
    rcases Vw σ _ κ' c hc with⟨e,h2,_⟩|⟨_,h3⟩
    ·obtain⟨e',k',l',g1,_⟩:=XA h2
     have:=JbF g1
     rw[hf.1] at this;cases this
    ·rw[hf.1] at h3;cases h3
  ·cases l with
   |s t'=>rw[WP] at hc;exact hf.2.1 _ _ hc hk
   | h κ=>
    rcases Vw σ _ κ c hc with⟨e,h2,h3⟩|⟨_,h3⟩
    ·obtain⟨e',k',l',g1,g2⟩:=XA h2
     simp only at g2
     subst h3;subst g2
     simp[Cont.keys,Ent.keys] at hk
    ·exact hf.2.1 _ _ h3 hk
 have hc:Jm0 (Wl σ (JbG (Jg σ) (Jh σ) ps)) (Jg (Wl σ (JbG (Jg σ) (Jh σ) ps))) ps:=fun q hq κ hκ e k l hk=>by
  rw[Jda] at hκ
  rcases JfU hq hκ with⟨e',k',l',g1,g2⟩|⟨g1,g2⟩
  ·rw[g2] at hk;cases hk
  ·rw[g2] at hk;exact g1 e k l hk
 obtain⟨v,w',h1,h2⟩:=Jfh (P:=P) (p:=p) I1 hT hE hf1 hn hp hc (by rw[JeM fun p hp=>hp];exact hl)
 exact⟨v,w',h1,h2⟩
end Go.Gw

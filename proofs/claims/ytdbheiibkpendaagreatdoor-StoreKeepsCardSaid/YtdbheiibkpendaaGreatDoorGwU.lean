/- The walk's engine, part 5d: literals of one part; rows of a function's own, and what is put behind these. -/
import Derived.Test.YtdbheiibkpendaaGreatDoorGwR
import Derived.Lib.AppendZerosOnto
namespace Go.Gw
open Go.RowKit
variable {P:Program} {T:TypeId→Option TD} {B:Nat→Prop} {N:Nat} {w0:W0} {γ:Nat→Value} {σ:Stt} {a:Act} {w:World}
theorem NoKey.frz {κ':Nat} (hf:NoKey κ' σ) {fr:List (Nat×Ent)} (h:∀q∈fr,∃e k l,Jh σ q.1=some (.own e k l)∧q.2= .rd k l):NoKey κ' (Wl σ fr):=by
 refine⟨?_,fun l c hc hk=> ?_,hf.2.2⟩
 ·cases hc:Wl σ fr (.h κ') with
  |none=>rfl
  | some c=>
   rcases Vw σ _ κ' c hc with⟨e,h2,_⟩|⟨_,h3⟩
   ·obtain⟨e',k',l',g1,_⟩:=h _ h2
    have:=JbF g1
    rw[hf.1] at this;cases this
   ·rw[hf.1] at h3;cases h3
 ·cases l with
  |s t'=>rw[WP] at hc;exact hf.2.1 _ _ hc hk
  | h κ=>
   rcases Vw σ _ κ c hc with⟨e,h2,h3⟩|⟨_,h3⟩
   ·obtain⟨e',k',l',g1,g2⟩:=h _ h2
    simp only at g2
    subst h3;subst g2
    simp[Cont.keys,Ent.keys] at hk
   ·exact hf.2.1 _ _ h3 hk
theorem JgV (I:Inv B N w0 γ σ a w) {e:TypeId} {r:RowsK} {κ':Nat} (hf:NoKey κ' σ) {own:Bool} {vs:List Value} (h1:r.len=1) (hl:vs.length=r.sz)
  (hc:∀(j:Nat) (d:DL),r.cells[j]? =some d→∃u:Value,vs[j]? =some u∧u.oneCell'=true∧d.at w u) (ho:∀u∈vs,u.oneCell'=true)
  (hin:∀u∈vs,∀b,YP u=some b→(own=true→B b)∧b<w.heap.size∧∀κ1 e1,σ (.h κ1)=some (.e e1)→e1.mut=true→¬e1.reg γ w κ1 b) {p:List Prop}:
  Post B N w0 σ a ⟨some (.v (.one (.slc κ'))),[(κ',bif own then .orows e r else .rows r)],p⟩ (.slice (some ⟨w.heap.size,0,none⟩) 1 1) (w.alloc (.cells vs.toArray e)):=by
 have old:∀j,j<w.heap.size→(w.alloc (.cells vs.toArray e)).heap[j]? =w.heap[j]? :=fun j hj=>heap_alloc_old w _ j hj
 have hsz:w.heap.size≤(w.alloc (.cells vs.toArray e)).heap.size:=by simp
 have cell:∀j,(w.alloc (.cells vs.toArray e)).cell? ((⟨w.heap.size,0,none⟩:Addr).add j)=vs[j]? :=fun j=>by
  rw[Jn,Nat.zero_add,World.cell?_alloc_new];simp
 have hrd:RdR (w.alloc (.cells vs.toArray e)) (.slice (some ⟨w.heap.size,0,none⟩) 1 1) r:=by
  refine .inr ⟨⟨w.heap.size,0,none⟩,1,by rw[h1],by rw[h1];exact Nat.le_refl _,by simp[maxLen],by simp,rfl,fun j d hd=> ?_⟩
  obtain⟨u,g1,g2,g3⟩:=hc j d hd
  refine⟨u,(cell j).trans g1,g2,?_⟩
  cases d with
  |int k n=>exact g3
  |bytes k l=>exact RdI.keep hsz (fun b hb=>old b (RdI.lt g3 hb)) g3
  |bools l=>exact RdB.keep hsz (fun b hb=>old b (RdB.lt g3 hb)) g3
  |bool b=>exact g3
  |str s=>exact g3
 have inner:∀b,Inner (w.alloc (.cells vs.toArray e)) (.slice (some ⟨w.heap.size,0,none⟩) 1 1) (r.len*r.sz) b→∃u∈vs,YP u=some b:=by
  rintro b ⟨ad,len,cap,j,u,q1,q2,q3,q4⟩
  cases q1
  rw[cell j] at q3
  exact⟨u,List.mem_of_getElem? q3,q4⟩
 have hat:(bif own then Ent.orows e r else .rows r).at B (fun x=>if x=κ' then .slice (some ⟨w.heap.size,0,none⟩) 1 1 else γ x) (w.alloc (.cells vs.toArray e)) κ':=by
  cases own with
  |false=>simpa[Ent.at] using hrd
  | true=>
   simp only[cond_true,Ent.at,if_pos]
   refine⟨hrd,⟨vs,?_,ho⟩,fun b hb=> ?_,fun b hb=> ?_⟩
   ·have:=World.ownsRow_lit (base:=0) (e:=e) (size:=r.sz) w vs.toArray 1 (Nat.zero_le _) (by simp[maxLen]) (by simpa using hl)
    rw[h1];exact this
   ·simp only[Jw,Option.some.injEq] at hb
    subst hb
    exact I.top _ I.below.size
   ·obtain⟨u,hu,hb'⟩:=inner b hb
    obtain⟨g1,g2,_⟩:=hin u hu b hb'
    refine⟨g1 rfl,fun h=> ?_⟩
    simp only[Jw,Option.some.injEq] at h
    omega
 refine⟨fun x=>if x=κ' then .slice (some ⟨w.heap.size,0,none⟩) 1 1 else γ x,by simp[SV.den,V1.den,Leaf.cells],⟨trivial,trivial⟩,?_⟩
 have hg:=World.grownBy_alloc w (.cells vs.toArray e) none
 refine I.news2 (fun _=>False) (by intro p hp;simp only[List.mem_singleton] at hp;subst hp;exact .inl hf) (by simp) (fun κ h=> ?_) (Yy I.cell1 rfl)
  ⟨hg.os,hg.tape,hg.output,hg.size,fun b hb _=>hg.block b hb (by simp)⟩ (fun p hp=> ?_) (fun p hp q hq hne=> ?_)
 ·have:κ≠κ':=fun e'=>h (κ',bif own then Ent.orows e r else Ent.rows r) (by simp) e'.symm
  simp[this]
 ·simp only[List.mem_singleton] at hp
  subst hp
  refine⟨hat,fun _ b hb=> ?_,fun b hb=> ?_⟩
  ·have hb2:Jw (.slice (some ⟨w.heap.size,0,none⟩) 1 1)=some b:=by
    cases own with
    |false=>exact hb.elim
    |true=>simpa[Ent.reg] using hb
   simp only[Jw,Option.some.injEq] at hb2
   exact .inl (.inl (Nat.le_of_eq hb2))
  ·have hb':Jw (.slice (some ⟨w.heap.size,0,none⟩) 1 1)=some b∨Inner (w.alloc (.cells vs.toArray e)) (.slice (some ⟨w.heap.size,0,none⟩) 1 1) (r.len*r.sz) b:=by
    cases own<;>simpa[Ent.foot] using hb
   rcases hb' with hb'|hb'
   ·simp only[Jw,Option.some.injEq] at hb'
    exact .inl (.inl (Nat.le_of_eq hb'))
   ·obtain⟨u,hu,hb2⟩:=inner b hb'
    exact .inr fun κ1 e1 he _ hm=>(hin u hu b hb2).2.2 κ1 e1 he hm
 ·simp only[List.mem_singleton] at hp hq
  subst hp;subst hq
  exact absurd rfl hne
theorem JiO (I:Inv B N w0 γ σ a w) {e:TypeId} {sz n:Nat} {ps:List (Nat×Operand)} {o:Bool} {r:RowsK} {fr:List (Nat×Ent)} (h:Ji9 T σ e sz n ps=some (o,r,fr)):
  (∀q∈fr,∃e k l,Jh σ q.1=some (.own e k l)∧q.2= .rd k l)∧n=1∧r.len=1∧r.sz=sz∧∃x,ps=[(0,x)]∧∃vs:List Value,(a.eval x).cells.toList=vs∧vs.length=sz∧
   (∀(j:Nat) (d:DL),r.cells[j]? =some d→∃u:Value,vs[j]? =some u∧u.oneCell'=true∧d.at w u)∧(∀u∈vs,u.oneCell'=true)∧
   ∀u∈vs,∀b,YP u=some b→(o=true→B b)∧b<w.heap.size∧∀κ1 e1,Wl σ fr (.h κ1)=some (.e e1)→e1.mut=true→¬e1.reg γ w κ1 b:=by
 unfold Ji9 at h
 have main:∀{κ:Nat} {e':TypeId} {k:IntKind} {l:List Int},Jh σ κ=some (.own e' k l)→RdI w (γ κ) k l∧∀b,Jw (γ κ)=some b→B b∧b<w.heap.size∧∀κ1 e1,Wl σ [(κ,.rd k l)] (.h κ1)=some (.e e1)→e1.mut=true→¬e1.reg γ w κ1 b:=by
  intro κ e' k l hk
  obtain⟨h1,h2⟩:=I.key hk
  refine⟨Ql h2.1,fun b hb=>⟨h2.2 b hb,Ent.foot_lt (I.ent κ _ h1) b hb,fun κ1 e1 he hm hb1=> ?_⟩⟩
  rcases Vw σ _ κ1 _ he with⟨e2,h3,h4⟩|⟨h3,h4⟩
  ·cases h4
   simp only[List.mem_singleton,Prod.mk.injEq] at h3
   rw[h3.2] at hm;cases hm
  ·have hne:κ1≠κ:=fun e=>h3 (κ,.rd k l) (by simp) e.symm
   exact I.apart κ1 e1 κ _ h4 h1 hne hm b hb1 hb
 have rdc:∀{κ:Nat} {x:Ent} {l:List Int},Jh σ κ=some x→x.mut=false→RdI w (γ κ) .u8 l→(∀b,YP (γ κ)=some b→x.foot γ w κ b)→∀b,YP (γ κ)=some b→b<w.heap.size∧∀κ1 e1,σ (.h κ1)=some (.e e1)→e1.mut=true→¬e1.reg γ w κ1 b:=by
  intro κ x l hk hm hr hft b hb
  obtain⟨h1,h2⟩:=I.key hk
  refine⟨RdI.lt hr hb,fun κ1 e1 he hm1 hb1=> ?_⟩
  have hne:κ1≠κ:=fun e=>by subst e;rw[h1] at he;cases he;rw[hm] at hm1;cases hm1
  exact I.apart κ1 e1 κ _ he h1 hne hm1 b hb1 (hft b hb)
 have one1:∀{κ:Nat} {k:IntKind} {l:List Int},RdI w (γ κ) k l→(γ κ).cells.toList=[γ κ]:=fun h=>by
  rcases h with⟨⟨o,hv⟩,_⟩|⟨ad,cap,hv,_⟩<;>rw[hv]<;>rfl
 split at h
 ·rename_i x
  cases hn:Nat.beq n 1 with
  |false=>rw[hn] at h;cases h
  | true=>
   rw[hn] at h
   simp only[cond_true] at h
   have hn1:=Nat.eq_of_beq_eq_true hn
   split at h
   ·rename_i e2 k κ hd hx
    have ex:a.eval x=γ κ:=(I.eval hx).1
    split at h
    ·rename_i e' k' l hk
     cases hc:keq k k'&&Nat.beq sz 1 with
     |false=>rw[hc] at h;cases h
     | true=>
      rw[hc] at h
      simp only[cond_true,Option.some.injEq,Prod.mk.injEq] at h
      obtain⟨rfl,rfl,rfl⟩:=h
      simp only[Bool.and_eq_true] at hc
      obtain rfl:=WF hc.1
      obtain rfl:=Nat.eq_of_beq_eq_true hc.2
      obtain⟨m1,m2⟩:=main hk
      refine⟨fun q hq=> ?_,hn1,rfl,rfl,x,rfl,[γ κ],by rw[ex,one1 m1],rfl,fun j d hd=> ?_,?_,?_⟩
      ·simp only[List.mem_singleton] at hq;subst hq;exact⟨_,_,_,hk,rfl⟩
      ·cases j with
       |zero=>simp[RowsK.cells] at hd;subst hd;exact⟨γ κ,rfl,I.cell1 κ,m1⟩
       |succ j=>simp[RowsK.cells] at hd
      ·intro u hu;simp only[List.mem_singleton] at hu;subst hu;exact I.cell1 κ
      ·intro u hu b hb;simp only[List.mem_singleton] at hu;subst hu
       obtain⟨q1,q2,q3⟩:=m2 b (WO hb)
       exact⟨fun _=>q1,q2,q3⟩
    ·cases h
   ·rename_i _ _ _ m κ hd hx
    have ex:(a.eval x).cells.toList=[.int .i64 m,γ κ]:=by rw[(I.eval hx).1];rfl
    have cl:∀{l:List Int},RdI w (γ κ) .u8 l→∀(j:Nat) (d:DL),(RowsK.rc [(m,l)]).cells[j]? =some d→∃u:Value,[Value.int .i64 m,γ κ][j]? =some u∧u.oneCell'=true∧d.at w u:=fun {l} hr j d hd=>by
     match j with
     |0=>simp[RowsK.cells] at hd;subst hd;exact⟨_,rfl,rfl,rfl⟩
     |1=>simp[RowsK.cells] at hd;subst hd;exact⟨γ κ,rfl,I.cell1 κ,hr⟩
     |j+2=>simp[RowsK.cells] at hd
    have on:∀u∈[Value.int .i64 m,γ κ],u.oneCell'=true:=fun u hu=>by
     simp only[List.mem_cons,List.not_mem_nil,or_false] at hu
     rcases hu with rfl|rfl
     ·rfl
     ·exact I.cell1 κ
    have hsz:∀{l:List Int} {o':Bool} {fr':List (Nat×Ent)},(bif Nat.beq sz 2 then some (o',RowsK.rc [(m,l)],fr') else none)=some (o,r,fr)→sz=2∧o'=o∧RowsK.rc [(m,l)]=r∧fr'=fr:=fun {l o' fr'} h=>by
     cases hc:Nat.beq sz 2 with
     |false=>rw[hc] at h;cases h
     |true=>
      rw[hc] at h
      simp only[cond_true,Option.some.injEq,Prod.mk.injEq] at h
      exact⟨Nat.eq_of_beq_eq_true hc,h.1,h.2.1,h.2.2⟩
    split at h
    ·rename_i e' l hk
     obtain⟨rfl,rfl,rfl,rfl⟩:=hsz h
     obtain⟨m1,m2⟩:=main hk
     refine⟨fun q hq=> ?_,hn1,rfl,rfl,x,rfl,_,ex,rfl,cl m1,on,?_⟩
     ·simp only[List.mem_singleton] at hq;subst hq;exact⟨_,_,_,hk,rfl⟩
     ·intro u hu b hb
      simp only[List.mem_cons,List.not_mem_nil,or_false] at hu
      rcases hu with rfl|rfl
      ·simp[YP] at hb
      ·obtain⟨q1,q2,q3⟩:=m2 b (WO hb)
       exact⟨fun _=>q1,q2,q3⟩
    ·rename_i l hk
     obtain⟨rfl,rfl,rfl,rfl⟩:=hsz h
     have hr:RdI w (γ κ) .u8 l:=(I.key hk).2
     refine⟨by simp,hn1,rfl,rfl,x,rfl,_,ex,rfl,cl hr,on,?_⟩
     intro u hu b hb
     simp only[List.mem_cons,List.not_mem_nil,or_false] at hu
     rcases hu with rfl|rfl
     ·simp[YP] at hb
     ·exact⟨(fun h=>by cases h),rdc hk rfl hr (fun b hb=>hb) b hb⟩
    ·rename_i l hk
     obtain⟨rfl,rfl,rfl,rfl⟩:=hsz h
     have hr:RdI w (γ κ) .u8 l:=(I.key hk).2.1
     refine⟨by simp,hn1,rfl,rfl,x,rfl,_,ex,rfl,cl hr,on,?_⟩
     intro u hu b hb
     simp only[List.mem_cons,List.not_mem_nil,or_false] at hu
     rcases hu with rfl|rfl
     ·simp[YP] at hb
     ·exact⟨(fun h=>by cases h),rdc hk rfl hr (fun b hb=>hb) b hb⟩
    ·cases h
   ·rename_i _ _ _ m hd hx
    have ex:(a.eval x).cells.toList=[.int .i64 m,.slice none 0 0]:=by rw[(I.eval hx).1];rfl
    cases hc:Nat.beq sz 2 with
    |false=>rw[hc] at h;cases h
    | true=>
     rw[hc] at h
     simp only[cond_true,Option.some.injEq,Prod.mk.injEq] at h
     obtain⟨rfl,rfl,rfl⟩:=h
     obtain rfl:=Nat.eq_of_beq_eq_true hc
     refine⟨by simp,hn1,rfl,rfl,x,rfl,_,ex,rfl,fun j d hd=> ?_,?_,?_⟩
     ·match j with
      |0=>simp[RowsK.cells] at hd;subst hd;exact⟨_,rfl,rfl,rfl⟩
      |1=>simp[RowsK.cells] at hd;subst hd;exact⟨_,rfl,rfl,.inl ⟨⟨none,rfl⟩,rfl⟩⟩
      |j+2=>simp[RowsK.cells] at hd
     ·intro u hu
      simp only[List.mem_cons,List.not_mem_nil,or_false] at hu
      rcases hu with rfl|rfl<;>rfl
     ·intro u hu b hb
      simp only[List.mem_cons,List.not_mem_nil,or_false] at hu
      rcases hu with rfl|rfl<;>simp[YP] at hb
   ·cases h
 ·cases h
theorem JeJ {α:Type} {o:Option α} {f:α→Bool} (h:o.elim false f=true):∃x,o=some x∧f x=true:=by
 cases o with
 |none=>cases h
 |some x=>exact⟨x,rfl,h⟩
theorem VZ {t e:TypeId} {sz:Nat} (hT:(TD.sliceR e sz).ok P t):P.underlying t=some (.slice e)∧∃i z,P.info? e=some i∧i.size=sz∧i.zero=some z∧z.cells.size=sz∧i.bytes≤128∧0<sz∧sz≤16:=by
 obtain⟨t1,t2,t3,t4⟩:=hT
 obtain⟨i,hi,h⟩:=JeJ t4
 simp only[Bool.and_eq_true] at h
 obtain⟨z,hz,hzs⟩:=JeJ h.2
 rw[hi] at t2
 simp only[Option.map_some,Option.some.injEq] at t2
 have q1:=Nat.le_of_ble_eq_true h.1.1.1
 have q2:=Nat.le_of_ble_eq_true h.1.1.2
 have q3:=Nat.le_of_ble_eq_true h.1.2
 have q4:=Nat.eq_of_beq_eq_true hzs
 exact⟨t1,i,z,hi,t2,hz,by omega,q1,by omega,by omega⟩
theorem JhJ (I:Inv B N w0 γ σ a w) {t e:TypeId} {sz n:Nat} (hT:(TD.sliceR e sz).ok P t) {κ':Nat} (hf:NoKey κ' σ) {ps:List (Nat×Operand)} {o:Bool} {r:RowsK} {fr:List (Nat×Ent)}
  (h:Ji9 T σ e sz n ps=some (o,r,fr)) {p:List Prop}:
  ∃v w',(Instr.buildSlice t n (ps.map fun q=>(q.1,a.eval q.2)).toArray).run P w= .ok v w'∧Post B N w0 σ a ⟨some (.v (.one (.slc κ'))),(κ',bif o then .orows e r else .rows r)::fr,p⟩ v w':=by
 obtain⟨t1,i,z,hi,hisz,hz,hzs,_,hp,hp16⟩:=VZ hT
 obtain⟨f1,rfl,l1,l2,x,rfl,vs,ex,hl,hc,ho,hin⟩:=JiO (a:=a) I h
 have I1:=I.frz f1
 have hpost:=JgV (e:=e) (p:=p) I1 (hf.frz f1) l1 (by rw[l2];exact hl) hc ho hin
 refine⟨_,_,?_,hpost⟩
 have h24:¬(1*sz>2^24):=by omega
 have hz':∀w,(zeroValue e).run P w= .ok z w:=fun w=>by simp[zeroValue,typeInfo,hi,hz]
 have hs':∀w,(sizeOf e).run P w= .ok sz w:=fun w=>by simp[sizeOf,typeInfo,hi,hisz]
 have hf1:Instr.fill (fun i=>some (i*sz,sz)) ((Array.range (1*sz)).map (z.cells[·%z.cells.size]!)) [(0,a.eval x)]=some vs.toArray:=by
  have:=XI (fun i=>some (i*sz,sz)) (i:=0) (off:=0) (sz:=sz) (by simp) (a.eval x) [] ((Array.range (1*sz)).map (z.cells[·%z.cells.size]!)).toList [] [] rfl (by simp) (by rw[←Array.length_toList,ex,hl])
  simp only[List.append_nil,List.nil_append,Array.toArray_toList] at this
  rw[this]
  simp[Instr.fill,←ex]
 unfold Instr.buildSlice
 simp only[Sem.run_bind,run_underlying t1,Result.andThen_ok,hs',if_neg h24,if_neg (show ¬1*sz=0 by omega),hz',Sem.run_pure,List.map_cons,List.map_nil,hf1]
 simp[newRow]
theorem Jdw {r1 r2 r:RowsK} (h:r1.app r2=some r):r.len=r1.len+r2.len∧r.sz=r1.sz∧r2.sz=r1.sz∧r.cells=r1.cells++r2.cells:=by
 cases r1 with
 | bs k ll=>cases r2 with
  | bs k' ll'=>
   simp only[RowsK.app] at h
   cases hc:keq k k' with
   |false=>rw[hc] at h;cases h
   |true=>
    rw[hc] at h
    simp only[cond_true,Option.some.injEq] at h
    obtain rfl:=WF hc
    subst h
    simp[RowsK.len,RowsK.sz,RowsK.cells]
  |_=>cases h
 | rc ll=>cases r2 with
  |rc ll'=>
   simp only[RowsK.app,Option.some.injEq] at h
   subst h
   simp[RowsK.len,RowsK.sz,RowsK.cells]
  |_=>cases h
 | gn s ll=>cases r2 with
  | gn s' ll'=>
   simp only[RowsK.app] at h
   cases hc:Nat.beq s s' with
   |false=>rw[hc] at h;cases h
   |true=>
    rw[hc] at h
    simp only[cond_true,Option.some.injEq] at h
    obtain rfl:=Nat.eq_of_beq_eq_true hc
    subst h
    simp[RowsK.len,RowsK.sz,RowsK.cells]
  |_=>cases h
theorem Xm {t ty e:TypeId} {sz:Nat} (hT:(TD.sliceR e sz).ok P t) {v y:Value} {r1 r2 r:RowsK} {xs:List Value} (hs:r1.sz=sz) (happ:r1.app r2=some r)
  (ho:w.ownsRow 0 e sz v r1.len xs) (hx1:∀u∈xs,u.oneCell'=true) (hrd:RdR w v r1) (hy:RdR w y r2) (hlen:r.len≤YJ)
  (hin:∀b,Inner w v (r1.len*r1.sz) b→Jw v≠some b) (hin2:∀b,Inner w y (r2.len*r2.sz) b→Jw v≠some b):
  ∃v' w',(Builtin.append_ #[t,t] ty #[v,y]).run P w= .ok v' w'∧v'.oneCell'=true∧RdR w' v' r∧(∃xs',w'.ownsRow 0 e sz v' r.len xs'∧∀u∈xs',u.oneCell'=true)∧w.grownBy w' v.ownBlock∧
   (∀b,Jw v'=some b→Jw v=some b∨w.heap.size≤b)∧∀b,Inner w' v' (r.len*r.sz) b→Inner w v (r1.len*r1.sz) b∨Inner w y (r2.len*r2.sz) b:=by
 obtain⟨t1,i,z,hi,hisz,hz,hzs,hby,hp,hp16⟩:=VZ hT
 obtain⟨a1,a2,a3,a4⟩:=Jdw happ
 have hmx:r1.len+r2.len≤1099511627776:=by rw[←a1];exact hlen
 have one:∀{v:Value} {n:Nat} {xs:List Value} {w:World},w.ownsRow 0 e sz v n xs→v.oneCell'=true:=fun h=>by
  rcases h.2 with⟨rfl,_⟩|⟨g,cap,cur,rfl,_⟩<;>rfl
 have obk:∀{v:Value} {n:Nat} {xs:List Value} {w:World},w.ownsRow 0 e sz v n xs→v.ownBlock=Jw v:=fun h=>by
  rcases h.2 with⟨rfl,_⟩|⟨g,cap,cur,rfl,_⟩<;>rfl
 rcases hy with⟨rfl,h0⟩|⟨ad,cap2,rfl,g1,g2,g3,g4,g5⟩
 ·have hc2:r2.cells=[]:=List.length_eq_zero_iff.1 (by rw[RowsK.cells_len,h0,Nat.zero_mul])
  have hl:r.len=r1.len:=by omega
  have hc:r.cells=r1.cells:=by rw[a4,hc2,List.append_nil]
  refine⟨v,w,run_append_owned_none w 0 t ty e i sz t1 hi v _ _ ho,one ho,?_,⟨xs,by rw[hl];exact ho,hx1⟩,⟨rfl,rfl,rfl,Nat.le_refl _,fun _ _ _=>rfl⟩,fun b hb=> .inl hb,fun b hb=> .inl ?_⟩
  ·rcases hrd with⟨h,h'⟩|⟨ad,cap,h,h2,h3,h4,h5,h6⟩
   ·exact .inl ⟨h,by omega⟩
   ·exact .inr ⟨ad,cap,by rw[hl];exact h,by omega,h3,h4,h5,by rw[hc];exact h6⟩
  ·rw[hl,a2] at hb;exact hb
 ·obtain⟨news,hnl,hnews⟩:∃news:List Value,news.length=r2.cells.length∧∀(j:Nat) (d:DL),r2.cells[j]? =some d→∃u:Value,news[j]? =some u∧w.cell? (ad.add j)=some u∧u.oneCell'=true∧d.at w u:=by
   refine⟨(List.range r2.cells.length).map fun j=>(w.cell? (ad.add j)).getD undef,by simp,fun j d hd=> ?_⟩
   obtain⟨u,q1,q2,q3⟩:=g5 j d hd
   have hj:j<r2.cells.length:=(List.getElem?_eq_some_iff.1 hd).1
   exact⟨u,by simp[hj,q1],q1,q2,q3⟩
  have each:∀(j:Nat) (u:Value),news[j]? =some u→∃d:DL,r2.cells[j]? =some d∧w.cell? (ad.add j)=some u∧u.oneCell'=true∧d.at w u:=fun j u hu=>by
   have hj:j<r2.cells.length:=by rw[←hnl];exact(List.getElem?_eq_some_iff.1 hu).1
   obtain⟨u',q1,q2,q3,q4⟩:=hnews j _ (List.getElem?_eq_getElem hj)
   rw[hu] at q1
   cases q1
   exact⟨_,List.getElem?_eq_getElem hj,q2,q3,q4⟩
  have hn1:∀u∈news,u.oneCell'=true:=fun u hu=>by
   obtain⟨j,hj⟩:=List.mem_iff_getElem?.1 hu
   obtain⟨d,_,_,q,_⟩:=each j u hj
   exact q
  have hl2:news.length=r2.len*sz:=by rw[hnl,RowsK.cells_len,a3,hs]
  have h63:r1.len+r2.len≤maxLen:=by simp only[maxLen];omega
  have hbytes:(r1.len+r2.len)*i.bytes≤140737488355328:=by
   have:=Nat.mul_le_mul hmx hby
   omega
  obtain⟨v',w',k1,k2,k3,k4⟩:=run_append_own (P:=P) w 0 t ty e i z sz i.bytes t1 hi hz hisz rfl hzs hp v _ _ ho ad r2.len cap2 news hl2 (fun j u hu=>(each j u hu).choose_spec.2.1) hn1 h63 hbytes (Nat.zero_le _)
  have hxl:xs.length=r1.cells.length:=by rw[ho.1,RowsK.cells_len,hs]
  have hmain:∀b,Jw v'=some b→Jw v=some b∨w.heap.size≤b:=fun b hb=>by
   rcases ho.2 with⟨hv,h0⟩|⟨g,cap,cur,hv,_,hg,hnc,hcm,hcs,htake⟩
   ·subst hv
    have ho':w.ownsRow w.heap.size e sz (.slice none 0 0) r1.len xs:=⟨ho.1,.inl ⟨rfl,h0⟩⟩
    obtain⟨v2,w2,s1,s2,_,_⟩:=run_append_own (P:=P) w w.heap.size t ty e i z sz i.bytes t1 hi hz hisz rfl hzs hp _ _ _ ho' ad r2.len cap2 news hl2 (fun j u hu=>(each j u hu).choose_spec.2.1) hn1 h63 hbytes (Nat.le_refl _)
    rw[k1] at s1
    cases s1
    right
    exact(World.ownsRow.lt s2 b (by rw[obk k2];exact hb)).1
   ·subst hv
    by_cases hroom:r1.len+r2.len≤cap
    ·obtain⟨w2,s1,_⟩:=run_append_fits (P:=P) w 0 t ty e i sz t1 hi hisz g r1.len cap _ ho ad r2.len cap2 news hl2 (fun j u hu=>(each j u hu).choose_spec.2.1) hn1 hroom
     rw[k1] at s1
     cases s1
     exact .inl hb
    ·have holds:∀j u,xs[j]? =some u→w.cell? ((⟨g,0,none⟩:Addr).add j)=some u:=ho.cells (g:=g) rfl
     have hr:=run_append_grow (P:=P) w t ty e i z t1 hi hz ⟨g,0,none⟩ r1.len cap _ (by rw[hisz];exact ho.1) holds ad r2.len cap2 news (by rw[hisz];exact hl2) (fun j u hu=>(each j u hu).choose_spec.2.1) (by omega) (by simp only[maxLen] at h63;omega) (growslice_fits (by omega) hbytes)
     rw[k1] at hr
     cases hr
     right
     simp[Jw] at hb
     omega
  have keep:∀{u:Value} {d:DL},(∀b,YP u=some b→b<w.heap.size→Jw v≠some b)→d.at w u→d.at w' u:=fun {u d} hn h=>by
   cases d with
   |int k n=>exact h
   |bytes k l=>exact RdI.keep k3.size (fun b hb=>k3.block b (RdI.lt h hb) fun e=>hn b hb (RdI.lt h hb) (by rw[←obk ho];exact e.symm)) h
   |bools l=>exact RdB.keep k3.size (fun b hb=>k3.block b (RdB.lt h hb) fun e=>hn b hb (RdB.lt h hb) (by rw[←obk ho];exact e.symm)) h
   |bool b=>exact h
   |str s=>exact h
  have olds:∀(j:Nat) (u:Value),xs[j]? =some u→∃d:DL,r1.cells[j]? =some d∧d.at w u∧∀b,YP u=some b→Inner w v (r1.len*r1.sz) b:=fun j u hu=>by
   have hj:j<r1.cells.length:=by rw[←hxl];exact(List.getElem?_eq_some_iff.1 hu).1
   rcases hrd with⟨h,h'⟩|⟨ad1,cap1,h,h2,h3,h4,h5,h6⟩
   ·rw[RowsK.cells_len,h',Nat.zero_mul] at hj;omega
   ·obtain⟨u',q1,q2,q3⟩:=h6 j _ (List.getElem?_eq_getElem hj)
    rcases ho.2 with⟨hv,_⟩|⟨g,cap,cur,hv,_⟩
    ·rw[h] at hv;cases hv
    ·have hc:=ho.cells (g:=g) (by rw[hv];rfl) j u hu
     have:ad1=⟨g,0,none⟩:=by rw[h] at hv;simp at hv;exact hv.1
     subst this
     rw[q1] at hc
     cases hc
     exact⟨_,List.getElem?_eq_getElem hj,q3,fun b hb=>⟨_,_,_,j,_,h,by rw[←RowsK.cells_len];exact hj,q1,hb⟩⟩
  have hcell:∀{g:Nat},v'.ownBlock=some g→∀j u,(xs++news)[j]? =some u→w'.cell? ((⟨g,0,none⟩:Addr).add j)=some u:=fun hg=>k2.cells hg
  have dAt:∀(j:Nat) (d:DL),r.cells[j]? =some d→∃u:Value,(xs++news)[j]? =some u∧u.oneCell'=true∧d.at w' u:=fun j d hd=>by
   rw[a4] at hd
   by_cases hj:j<r1.cells.length
   ·rw[List.getElem?_append_left hj] at hd
    have hjx:j<xs.length:=by omega
    obtain⟨d',q1,q2,q3⟩:=olds j _ (List.getElem?_eq_getElem hjx)
    rw[hd] at q1
    cases q1
    exact⟨xs[j],by rw[List.getElem?_append_left hjx];exact List.getElem?_eq_getElem hjx,hx1 _ (List.getElem_mem hjx),keep (fun b hb _=>hin b (q3 b hb)) q2⟩
   ·rw[List.getElem?_append_right (by omega)] at hd
    obtain⟨u,q1,q2,q3,q4⟩:=hnews _ d hd
    refine⟨u,by rw[List.getElem?_append_right (by omega),hxl];exact q1,q3,keep (fun b hb _=>hin2 b ⟨ad,_,cap2,_,u,rfl,?_,q2,hb⟩) q4⟩
    rw[←RowsK.cells_len]
    exact(List.getElem?_eq_some_iff.1 hd).1
  refine⟨v',w',k1,one k2,?_,⟨xs++news,by rw[a1];exact k2,fun u hu=> ?_⟩,k3,hmain,fun b hb=> ?_⟩
  ·rcases k2.2 with⟨h,h0⟩|⟨g,cap,cur,h,_,hg,hnc,hcm,hcs,htake⟩
   ·exact .inl ⟨h,by omega⟩
   ·refine .inr ⟨⟨g,0,none⟩,cap,by rw[a1];exact h,by omega,hcm,(Array.getElem?_eq_some_iff.1 hg).1,rfl,fun j d hd=> ?_⟩
    obtain⟨u,q1,q2,q3⟩:=dAt j d hd
    exact⟨u,hcell (by rw[h];rfl) j u q1,q2,q3⟩
  ·rcases List.mem_append.1 hu with hu|hu
   ·exact hx1 u hu
   ·exact hn1 u hu
  ·obtain⟨ad1,len,cap,j,u,q1,q2,q3,q4⟩:=hb
   rw[←RowsK.cells_len] at q2
   obtain⟨u',s1,_,_⟩:=dAt j _ (List.getElem?_eq_getElem q2)
   rcases k2.2 with⟨h,_⟩|⟨g,cap',cur,h,_⟩
   ·rw[q1] at h;cases h
   ·have:ad1=⟨g,0,none⟩:=by rw[q1] at h;simp at h;exact h.1
    subst this
    have hc:=hcell (by rw[h];rfl) j u' s1
    rw[q3] at hc
    cases hc
    by_cases hj:j<xs.length
    ·rw[List.getElem?_append_left hj] at s1
     obtain⟨d',_,_,x3⟩:=olds j _ s1
     exact .inl (x3 b q4)
    ·rw[List.getElem?_append_right (by omega)] at s1
     obtain⟨d',x1,x2,_,_⟩:=each _ _ s1
     refine .inr ⟨ad,_,cap2,_,_,rfl,?_,x2,q4⟩
     rw[←RowsK.cells_len]
     exact(List.getElem?_eq_some_iff.1 x1).1
theorem Jem (I:Inv B N w0 γ σ a w) {t ty e e2:TypeId} {sz:Nat} (hT:(TD.sliceR e sz).ok P t) {κ κ2 κ':Nat} {r1 r2 r:RowsK} (hk:σ (.h κ)=some (.e (.orows e r1))) (hk2:σ (.h κ2)=some (.e (.orows e2 r2))) (hne:κ≠κ2)
  (hf:NoKey κ' σ) (hs:r2.sz=sz) (happ:r1.app r2=some r) (hlen:r.len≤YJ) {p:List Prop}:
  ∃v w',(Builtin.append_ #[t,t] ty #[γ κ,γ κ2]).run P w= .ok v w'∧Post B N w0 σ a ⟨some (.v (.one (.slc κ'))),[(κ',.orows e r),(κ,.dead)],p⟩ v w':=by
 obtain⟨a1,a2,a3,a4⟩:=Jdw happ
 obtain⟨x1,⟨xs,x2,x3⟩,x4,x5⟩:=I.ent κ _ hk
 obtain⟨y1,_,y4,y5⟩:=I.ent κ2 _ hk2
 have hs1:r1.sz=sz:=by rw[←a3];exact hs
 have apt:∀b,Jw (γ κ)=some b→¬(Ent.orows e2 r2).foot γ w κ2 b:=I.apart κ _ κ2 _ hk hk2 hne rfl
 obtain⟨v',w',k1,k2,k3,k4,k5,k6,k7⟩:=Xm (P:=P) (t:=t) (ty:=ty) hT hs1 happ (by rw[←hs1];exact x2) x3 x1 y1 hlen (fun b hb=>(x5 b hb).2) (fun b hb h=>apt b h (.inr hb))
 have hob:(γ κ).ownBlock=Jw (γ κ):=by
  rcases x2.2 with⟨h,_⟩|⟨g,cap,cur,h,_⟩<;>rw[h]<;>rfl
 have k6':∀b,Jw v'=some b→Yk γ w (fun x=>x=κ) b:=fun b hb=>(k6 b hb).symm.imp id fun h=>⟨κ,rfl,h⟩
 refine⟨v',w',k1,fun x=>if x=κ' then v' else γ x,by simp[SV.den,V1.den,Leaf.cells],⟨trivial,trivial⟩,?_⟩
 have hnk:κ≠κ':=fun e=>by subst e;rw[hf.1] at hk;cases hk
 refine I.news2 (fun x=>x=κ) (fun p hp=> ?_) (by intro x hx;cases hx;exact⟨⟨(κ,.dead),by simp,rfl⟩,_,hk,rfl⟩) (fun x hx=> ?_) (Yy I.cell1 k2)
  ⟨k5.os,k5.tape,k5.output,k5.size,fun b hb hn=>k5.block b hb fun e=>hn (.inr ⟨κ,rfl,by rw[←hob];exact e.symm⟩)⟩ (fun p hp=> ?_) (fun p hp q hq hpq=> ?_)
 ·simp only[List.mem_cons,List.not_mem_nil,or_false] at hp
  rcases hp with rfl|rfl
  ·exact .inl hf
  ·exact .inr rfl
 ·have:x≠κ':=fun eq=>absurd (hx (κ',Ent.orows e r) (by simp) eq.symm) (fun e'=>hnk (e'.symm.trans eq))
  simp[this]
 ·simp only [List.mem_cons,List.not_mem_nil,or_false] at hp
  rcases hp with rfl|rfl
  ·refine⟨?_,fun _ b hb=> .inl (k6' b (by simpa[Ent.reg] using hb)),fun b hb=> ?_⟩
   ·simp only[Ent.at,if_pos]
    obtain⟨xs',q1,q2⟩:=k4
    refine⟨k3,⟨xs',by rw[a2,hs1];exact q1,q2⟩,fun b hb=> ?_,fun b hb=> ?_⟩
    ·rcases k6 b hb with h|h
     ·exact x4 b h
     ·exact I.top b (Nat.le_trans I.below.size h)
    ·rcases k7 b hb with h|h
     ·refine⟨(x5 b h).1,fun hm=> ?_⟩
      rcases k6 b hm with h'|h'
      ·exact(x5 b h).2 h'
      ·have:=RdR.lt x1 (.inr h);omega
     ·refine⟨(y5 b h).1,fun hm=> ?_⟩
      rcases k6 b hm with h'|h'
      ·exact apt b h' (.inr h)
      ·have:=RdR.lt y1 (.inr h);omega
   ·simp only[Ent.foot,if_pos] at hb
    rcases hb with hb|hb
    ·exact .inl (k6' b hb)
    ·refine .inr fun κ1 e1 he hn hm hb1=> ?_
     rcases k7 b hb with h|h
     ·exact I.apart κ1 e1 κ _ he hk (fun e=>hn (κ,.dead) (by simp) e.symm) hm b hb1 (.inr h)
     ·by_cases h12:κ1=κ2
      ·subst h12
       rw[hk2] at he;cases he
       exact(y5 b h).2 hb1
      ·exact I.apart κ1 e1 κ2 _ he hk2 h12 hm b hb1 (.inr h)
  ·exact⟨trivial,(fun h=>by cases h),fun b hb=>hb.elim⟩
 ·simp only[List.mem_cons,List.not_mem_nil,or_false] at hp hq
  rcases hp with rfl|rfl<;>rcases hq with rfl|rfl
  ·exact absurd rfl hpq
  ·exact fun _ _ _ h=>h
  ·intro h;cases h
  ·exact absurd rfl hpq
theorem Jbt (I:Inv B N w0 γ σ a w) {t ty e e2:TypeId} {sz:Nat} (hT:(TD.sliceR e sz).ok P t) {κ2 κ':Nat} {r2:RowsK} (hk2:σ (.h κ2)=some (.e (.orows e2 r2)))
  (hf:NoKey κ' σ) (hs:r2.sz=sz) (hlen:r2.len≤YJ) {p:List Prop}:
  ∃v w',(Builtin.append_ #[t,t] ty #[.slice none 0 0,γ κ2]).run P w= .ok v w'∧Post B N w0 σ a ⟨some (.v (.one (.slc κ'))),[(κ',.orows e r2)],p⟩ v w':=by
 obtain⟨y1,_,y4,y5⟩:=I.ent κ2 _ hk2
 obtain⟨r1,h1,h2,happ⟩:∃r1:RowsK,r1.len=0∧r1.sz=sz∧r1.app r2=some r2:=by
  cases r2 with
  |bs k ll=>exact⟨.bs k [],rfl,hs,by simp[RowsK.app,keq]⟩
  |rc ll=>exact⟨.rc [],rfl,hs,by simp[RowsK.app]⟩
  |gn s ll=>exact⟨.gn s [],rfl,hs,by simp[RowsK.app]⟩
 obtain⟨v',w',k1,k2,k3,k4,k5,k6,k7⟩:=Xm (P:=P) (t:=t) (ty:=ty) (v:= .slice none 0 0) (xs:=[]) hT h2 happ (by rw[h1];exact World.ownsRow_nil w 0 e sz) (by simp) (.inl ⟨rfl,h1⟩) y1 hlen (fun b _ h=>by simp[Jw] at h) (fun b _ h=>by simp[Jw] at h)
 have k6':∀b,Jw v'=some b→w.heap.size≤b:=fun b hb=>(k6 b hb).resolve_left (by simp[Jw])
 have k7':∀b,Inner w' v' (r2.len*r2.sz) b→Inner w (γ κ2) (r2.len*r2.sz) b:=fun b hb=>by
  rcases k7 b hb with⟨_,_,_,_,_,h,_⟩|h
  ·cases h
  ·exact h
 refine⟨v',w',k1,fun x=>if x=κ' then v' else γ x,by simp[SV.den,V1.den,Leaf.cells],⟨trivial,trivial⟩,?_⟩
 refine I.news2 (fun _=>False) (fun p hp=> ?_) (by simp) (fun x hx=> ?_) (Yy I.cell1 k2)
  ⟨k5.os,k5.tape,k5.output,k5.size,fun b hb _=>k5.block b hb (by simp[Value.ownBlock])⟩ (fun p hp=> ?_) (fun p hp q hq hpq=> ?_)
 ·simp only[List.mem_singleton] at hp;subst hp;exact .inl hf
 ·have:x≠κ':=fun eq=>hx (κ',Ent.orows e r2) (by simp) eq.symm
  simp[this]
 ·simp only[List.mem_singleton] at hp
  subst hp
  refine⟨?_,fun _ b hb=> .inl (.inl (k6' b (by simpa[Ent.reg] using hb))),fun b hb=> ?_⟩
  ·simp only[Ent.at,if_pos]
   obtain⟨xs',q1,q2⟩:=k4
   refine⟨k3,⟨xs',by rw[hs];exact q1,q2⟩,fun b hb=>I.top b (Nat.le_trans I.below.size (k6' b hb)),fun b hb=> ?_⟩
   refine⟨(y5 b (k7' b hb)).1,fun hm=> ?_⟩
   have:=RdR.lt y1 (.inr (k7' b hb))
   have:=k6' b hm
   omega
  ·simp only[Ent.foot,if_pos] at hb
   rcases hb with hb|hb
   ·exact .inl (.inl (k6' b hb))
   ·refine .inr fun κ1 e1 he _ hm hb1=> ?_
    by_cases h12:κ1=κ2
    ·subst h12
     rw[hk2] at he;cases he
     exact(y5 b (k7' b hb)).2 hb1
    ·exact I.apart κ1 e1 κ2 _ he hk2 h12 hm b hb1 (.inr (k7' b hb))
 ·simp only[List.mem_singleton] at hp hq
  subst hp;subst hq
  exact absurd rfl hpq
theorem Jby (I:Inv B N w0 γ σ a w) {t tn ty e:TypeId} {k k1 kn:IntKind} (hT:(TD.slice e k).ok P t) (hn:(TD.int kn).ok P tn) {κ κ':Nat} {l:List Int} (hk:σ (.h κ)=some (.e (.own e k l))) (hf:NoKey κ' σ)
  {n:Int} (h0:0≤n) (hle:l.length+n≤Qi) {p:List Prop}:
  ∃v w',(Builtin.append_ #[t,tn] ty #[γ κ,.int k1 n]).run P w= .ok v w'∧Post B N w0 σ a ⟨some (.v (.one (.slc κ'))),[(κ',.own e k (l++List.replicate n.toNat 0)),(κ,.dead)],p⟩ v w':=by
 obtain⟨t1,t2,t3,t4⟩:=hT
 obtain⟨i,hi,hsz,hby,hz⟩:∃i,P.info? e=some i∧i.size=1∧i.bytes=cst k∧i.zero=some (.int k 0):=by
  cases hq:P.info? e with
  |none=>simp[hq] at t3
  |some i=>simp[hq] at t3;exact⟨i,rfl,t3⟩
 have hk8:cst k≤8:=by cases k<;>simp[cst]
 obtain⟨m,rfl⟩:=Int.eq_ofNat_of_zero_le (show 0≤n by omega)
 simp only[Int.toNat_natCast]
 have hm:l.length+m≤17592186044416:=by simp only[Qi] at hle;omega
 have hb1:(l.length+m)*cst k≤140737488355328:=by have:=Nat.mul_le_mul hm hk8;omega
 have hb2:m*cst k≤281474976710656:=by have:=Nat.mul_le_mul (show m≤17592186044416 by omega) hk8;omega
 obtain⟨ho,hB⟩:=I.ent κ _ hk
 have ez:∀q,(Builtin.zeroCells (Value.int k 0).cells q).toList=List.replicate q (.int k 0):=fun q=>by
  have:=toList_madeCells_one (.int k 0) q
  simp only[madeCells] at this
  simp only[Builtin.zeroCells,Value.cells]
  simpa using this
 have zs:∀q,(Builtin.zeroCells (Value.int k 0).cells q).size=q:=fun q=>by rw[←Array.length_toList,ez];simp
 have hml:(l++List.replicate m 0).map (Value.int k)=l.map (Value.int k)++List.replicate m (.int k 0):=by simp
 have grown:∀(old:Nat),old≤l.length+m→
   (w.drew.alloc (.cells ((l.map (Value.int k)).toArray++Builtin.zeroCells (Value.int k 0).cells m++Builtin.zeroCells (Value.int k 0).cells (grownCap w (l.length+m) old e- (l.length+m))) e)).ownsRow 0 e 1
    (.slice (some ⟨w.heap.size,0,none⟩) (l.length+m) (grownCap w (l.length+m) old e)) (l++List.replicate m 0).length ((l++List.replicate m 0).map (.int k)):=by
  intro old _
  have hge:=grownCap_ge w (l.length+m) old e
  have hcm:=grownCap_le_maxLen w (l.length+m) old e (by simp only[maxLen];omega)
  refine⟨by simp,.inr ⟨w.heap.size,_,_,by simp,Nat.zero_le _,heap_alloc_new w.drew _,by simpa using hge,hcm,?_,?_⟩⟩
  ·simp only[Array.size_append,zs,List.size_toArray,List.length_map]
   omega
  ·simp only[Array.toList_append,ez,hml,Nat.mul_one,List.length_append,List.length_replicate]
   rw[List.take_append_of_le_length (by simp)]
   exact List.take_of_length_le (by simp)
 have hgr:∀o:Obj,BelowX (fun b=>w.heap.size≤b∨Jw (γ κ)=some b) w (w.drew.alloc o):=fun o=>⟨rfl,rfl,rfl,by simp,fun k hk _=>heap_alloc_old w.drew o k hk⟩
 have done:∀(v':Value) (w':World),(Builtin.append_ #[t,tn] ty #[γ κ,.int k1 (m:Int)]).run P w= .ok v' w'→v'.oneCell'=true→w'.ownsRow 0 e 1 v' (l++List.replicate m 0).length ((l++List.replicate m 0).map (.int k))→
   BelowX (fun b=>w.heap.size≤b∨Jw (γ κ)=some b) w w'→(∀b,Jw v'=some b→w.heap.size≤b∨Jw (γ κ)=some b)→
   ∃v w',(Builtin.append_ #[t,tn] ty #[γ κ,.int k1 (m:Int)]).run P w= .ok v w'∧Post B N w0 σ a ⟨some (.v (.one (.slc κ'))),[(κ',.own e k (l++List.replicate m 0)),(κ,.dead)],p⟩ v w':=
  fun v' w' r1 r2 r3 r4 r5=>⟨v',w',r1,fun x=>if x=κ' then v' else γ x,by simp[SV.den,V1.den,Leaf.cells],⟨trivial,trivial⟩,
   WR I hk rfl hf r2 r4 ⟨by simpa using r3,fun b hb=>r5 b (by simpa using hb)⟩ fun b hb=>r5 b (by simpa[Ent.foot] using hb)⟩
 by_cases hm0:m=0
 ·subst hm0
  have hw0:IntKind.i64.wrap 0=0:=by rw[IntKind.wrap_i64];rfl
  refine done (γ κ) w ?_ (I.cell1 κ) (by simpa using ho) ⟨rfl,rfl,rfl,Nat.le_refl _,fun _ _ _=>rfl⟩ (fun b hb=> .inr hb)
  rcases ho.2 with⟨hv,h0'⟩|⟨g,cap,cur,hv,_,hg,hnc,hcm,hcs,htake⟩
  ·rw[hv]
   simp[Builtin.append_,run_underlying t1,run_underlying hn.1,sizeOf,typeInfo,hi,asInt,asIntOf,hw0]
  ·rw[hv]
   have hroom:l.length≤cap:=hnc
   simp[Builtin.append_,run_underlying t1,run_underlying hn.1,sizeOf,typeInfo,hi,asInt,asIntOf,hw0,hroom,storeCells]
 have hm0:0<m:=by omega
 rcases ho.2 with⟨hv,h0'⟩|⟨g,cap,cur,hv,_,hg,hnc,hcm,hcs,htake⟩
 ·have:l=[]:=List.length_eq_zero_iff.1 h0'
  subst this
  have hr:=Lib.run_append_nil_zeros (P:=P) (ty:=ty) w t tn e i (.int k 0) k1 kn t1 hn.1 hi hz m (by omega) (by omega) (by omega) (by rw[hby];exact hb2)
  have hgw:=grown 0 (by omega)
  simp only[List.length_nil,Nat.zero_add,List.map_nil] at hgw
  rw[show (#[]:Array Value)++Builtin.zeroCells (Value.int k 0).cells m=Builtin.zeroCells (Value.int k 0).cells m by simp] at hgw
  exact done _ _ (by rw[hv];exact hr) rfl hgw (hgr _) (fun b hb=>by simp[Jw] at hb;omega)
 ·by_cases hroom:l.length+m≤cap
  ·have hcl:l.length*1+m≤cur.size:=by omega
   have hst:=run_storeCells_at P g (l.length*1) e (List.replicate m (Value.int k 0)) 0 cur w hg (by simpa using hcl) (by intro v hv;rw[List.eq_of_mem_replicate hv];rfl)
   simp only[Nat.add_zero,List.length_replicate] at hst
   have hr:(Builtin.append_ #[t,tn] ty #[.slice (some ⟨g,0,none⟩) l.length cap,.int k1 (m:Int)]).run P w=
     .ok (.slice (some ⟨g,0,none⟩) (l.length+m) cap) (w.setRow g (cur.toList.take (l.length*1)++List.replicate m (Value.int k 0)++cur.toList.drop (l.length*1+m)).toArray):=by
    have hw:IntKind.i64.wrap (m:Int)=m:=by rw[IntKind.wrap_i64];omega
    have h48i:¬(281474976710656<(m:Int)*(i.bytes:Int)):=by rw[hby,←Int.natCast_mul];omega
    have hneg:¬((m:Int)<0):=by omega
    have hns:¬(m*i.size=0):=by rw[hsz];omega
    have hm1:m≠0:=by omega
    simp only[Nat.mul_one] at hst ⊢
    simp[Builtin.append_,run_underlying t1,run_underlying hn.1,sizeOf,typeInfo,zeroValue,hi,hz,hsz,asInt,asIntOf,hw,hneg,h48i,hroom,Addr.add_lit,ez,hst,hm1]
   refine done (.slice (some ⟨g,0,none⟩) (l.length+m) cap) (w.setRow g (cur.toList.take (l.length*1)++List.replicate m (Value.int k 0)++cur.toList.drop (l.length*1+m)).toArray) (by rw[hv];exact hr) rfl ?_ ⟨rfl,rfl,rfl,by simp,fun k' _ hn'=>setRow_other w g k' _ fun e'=>hn' (.inr (by simp[hv,Jw,e']))⟩ (fun b hb=> .inr (by rw[hv];simpa[Jw] using hb))
   refine⟨by simp,.inr ⟨g,cap,_,by simp,Nat.zero_le _,setRow_heap w g cur _ e _ hg,by simpa using hroom,hcm,?_,?_⟩⟩
   ·simp only[List.size_toArray,List.length_append,List.length_take,List.length_drop,List.length_replicate,Array.length_toList]
    omega
   ·rw[hml,htake,List.take_left' (by simp)]
  ·have holds:∀j u,(l.map (Value.int k))[j]? =some u→w.drew.cell? ((⟨g,0,none⟩:Addr).add j)=some u:=ho.cells (g:=g) (by rw[hv];rfl)
   have hold:=run_firstCells_some (P:=P) w.drew i.size l.length ⟨g,0,none⟩ l.length cap (l.map (Value.int k)) (by rw[hsz];simp) holds
   have hr:=Lib.run_append_grow_zeros (P:=P) (ty:=ty) w t tn e i (.int k 0) k1 kn t1 hn.1 hi hz (some ⟨g,0,none⟩) l.length cap _ hold m hm0 (by omega) (by omega) (by omega) (by rw[hby];exact hb2) (growslice_fits (by omega) (by rw[hby];exact hb1))
   exact done _ _ (by rw[hv];exact hr) rfl (grown cap (by omega)) (hgr _) (fun b hb=>by simp[Jw] at hb;omega)
end Go.Gw

/- Memory that leads to memory: each operation, the fifth part; all of them. -/
import Derived.Test.YtdbheiibkpendaaGreatDoorGwF
namespace Go.Gw
open Go.RowKit Go.MapKept
variable {P:Program} {T:TypeId→Option TD} {B:Nat→Prop} {N:Nat} {w0:W0} {γ:Nat→Value} {σ:Stt} {a:Act} {w:World}
theorem Je3 {w:World} {e:TypeId} {v:Value} {sz n:Nat} {xs:List Value} (h:w.ownsRow 0 e sz v n xs):JcD v sz 0 n=v:=by
 obtain⟨_,⟨h2,h3⟩|⟨g,cap,cur,h2,_⟩⟩:=h
 ·rw[h2,h3];rfl
 ·rw[h2]
  simp[JcD,Addr.add]
theorem QF {w:World} {e:TypeId} {v:Value} {sz n:Nat} {xs:List Value} (h:w.ownsRow 0 e sz v n xs):QS v=Jw v∧v.ownBlock=Jw v:=by
 obtain⟨_,⟨h2,h3⟩|⟨g,cap,cur,h2,_⟩⟩:=h<;>rw[h2]<;>exact⟨rfl,rfl⟩
theorem Jhz {H:AH} {e sz i s lo n:Nat} (h:AH.isEnd H e sz (.slc i s lo n)=true):s=sz∧lo=0∧∃l,AH.at H i= .row e sz l∧n*sz=l.length:=by
 simp only[AH.isEnd,Bool.and_eq_true] at h
 obtain⟨⟨h1,h0⟩,h2⟩:=h
 split at h2
 ·rename_i e' s' l hl
  simp only[Bool.and_eq_true] at h2
  have e1:=Nat.eq_of_beq_eq_true h1
  have e2:=Nat.eq_of_beq_eq_true h2.1.2
  have e3:=Nat.eq_of_beq_eq_true h2.1.1
  subst e1;subst e2;subst e3
  exact⟨rfl,Nat.eq_of_beq_eq_true h0,l,hl,Nat.eq_of_beq_eq_true h2.2⟩
 ·cases h2
theorem Jii (hT:TOk P T) (I:Inv B N w0 γ σ a w) {κ:Nat} {ns:List Nat} {rw':Bool} {bs:List Nat} {H:AH} (hk:σ (.h κ)=some (.e (.arena rw' bs H))) (hf:∀κ∈ns,NoKey κ σ) (hnd:ns.Nodup) {args:Array Operand} {ts:Array TypeId} {ty:TypeId} {eff:Eff}
  (h:arS T σ κ ns rw' bs H (.call ⟨.builtin .append,args,ts⟩)=some eff) (hn:eff.need):∃v w',(Builtin.append_ ts ty (args.map a.eval)).run P w= .ok v w'∧Post B N w0 σ a eff v w':=by
 simp only[arS] at h
 split at h
 ·rename_i x y t t' ha0 ht0
  cases htt:Nat.beq t t' with
  |false=>simp[htt] at h
  | true =>
   obtain rfl:=Nat.eq_of_beq_eq_true htt
   simp only[htt,cond_true] at h
   have ea:args= #[x,y]:=by rw[←Array.toArray_toList (xs:=args),ha0]
   have et:ts= #[t,t]:=by rw[←Array.toArray_toList (xs:=ts),ht0]
   subst ea;subst et
   split at h
   ·rename_i es κ' κv v u he hx hy
    obtain⟨e,sz⟩:=es
    cases hr:Jlz σ κ bs H sz u with
    |none=>simp[hr] at h
    | some r=>
     simp only[hr,Option.bind_some,Option.some.injEq] at h
     subst h
     obtain⟨ys,m,nd⟩:=r
     obtain⟨q1,q2⟩:=VU.1 hn
     obtain⟨q1,q3⟩:=WY.1 q1
     have q3:v.len+m≤YJ:=q3
     have a1:=(I.ent _ _ hk).1
     cases hd:T t with
     |none=>rw[hd] at he;cases he
     |some d=>
     rw[hd] at he
     obtain⟨t1,inf,z,i1,i2,i3,i4,i5,i6⟩:=Xz (hT t _ hd) he
     obtain⟨y1,y2,y3⟩:=Jh6 I hk i6 hr q2
     have y1:YAt w (u.den γ) m (ys.map (MV.den (γ κ))):=y1
     have y2:ys.length=m*sz:=y2
     have y3:∀y∈ys,y.bd≤H.length:=y3
     have ey:=(I.eval hy).1
     have hfk:=hf κ' (by simp)
     have hfv:=hf κv (by simp)
     have hvk:κ'≠κv:=fun e=>by subst e;simp at hnd
     have own:∃vv,a.eval x=vv∧w.ownsRow 0 e sz vv v.len ((AH.view H v).map (MV.den (γ κ)))∧(∀u∈AH.view H v,u.bd≤H.length)∧
       ∀w':World,w.grownBy w' vv.ownBlock→Ar w' (γ κ) (MV.dies v H)∧(MV.dies v H).length=H.length∧(∀b,Jw vv=some b→¬Ve (γ κ) (MV.dies v H) b)∧(∀b,Ve (γ κ) (MV.dies v H) b→Ve (γ κ) H b)∧(∀b,Jw vv=some b→Ve (γ κ) H b):=by
      cases hv0:Jg σ x with
      |none=>simp[hv0] at hx
      | some ux=>
       simp only[hv0,Option.bind_some] at hx
       have ex:=(I.eval hv0).1
       unfold Jlx at hx
       split at hx
       ·rename_i κ1
        obtain⟨e0,e1⟩:=JT I hk hx
        refine⟨v.den (γ κ),by rw[ex];exact e0,?_⟩
        cases v with
        |nils=>
         refine⟨⟨by simp[AH.view,MV.len],.inl ⟨rfl,rfl⟩⟩,(fun u hu=>by cases hu),fun w' hg=>⟨a1.keep fun b hb=>hg.block b (a1.lt hb) (by simp[MV.den,Value.ownBlock]),rfl,(fun b hb=>by cases hb),fun b hb=>hb,fun b hb=>by cases hb⟩⟩
        | slc i s lo n=>
         obtain⟨rfl,rfl,l,hl,hle⟩:=Jhz q1
         simp only[MV.bd] at e1
         have hob:=a1.obj i (by omega)
         rw[hl] at hob
         obtain⟨h0,n0,hn0,how⟩:=Jfa hob
         have:n0=n:=Nat.eq_of_mul_eq_mul_right h0 (by omega)
         subst this
         have hfl:AH.fl H i=l:=by simp[AH.fl,hl,MO.flat]
         have hview:AH.view H (.slc i s 0 n0)=l:=by simp[AH.view,hfl,hle]
         have hden:(MV.slc i s 0 n0).den (γ κ)=YG (γ κ) i:=by simp only[MV.den];exact Je3 how
         rw[hden,hview]
         have hli:(AH.at H i).live=true:=by rw[hl];rfl
         obtain⟨b1,b2⟩:=QF how
         refine⟨how,fun u hu=>Jjk a1 i u (by rw[hfl];exact hu),fun w' hg=> ?_⟩
         obtain⟨p1,p2⟩:=a1.set (w':=w') (o:= .dead) hli (fun b hb hne=>hg.block b (a1.lt hb) (by rw[b2,←b1];exact fun e=>hne e.symm)) trivial (Nat.zero_le _)
         refine⟨p1,by simp[MV.dies],fun b hb hb'=> ?_,p2,fun b hb=>⟨i,hli,by rw[b1];exact hb⟩⟩
         obtain⟨j,hj,hjb⟩:=hb'
         by_cases hij:i=j
         ·subst hij
          have:(AH.at (MV.dies (.slc i s 0 n0) H) i)= .dead:=Jgo (WN hli)
          rw[this] at hj
          cases hj
         ·have:AH.at (MV.dies (.slc i s 0 n0) H) j=AH.at H j:=Vg hij
          rw[this] at hj
          exact a1.apart i j b hij hli hj (by rw[b1];exact hb) hjb
        |_=>cases q1
       ·simp only[Option.some.injEq] at hx
        subst hx
        refine⟨_,ex,⟨by simp[AH.view,MV.len],.inl ⟨rfl,rfl⟩⟩,(fun u hu=>by cases hu),fun w' hg=>⟨a1.keep fun b hb=>hg.block b (a1.lt hb) (by simp[SV.den,V1.den,Leaf.cells,Value.ownBlock]),rfl,(fun b hb=>by cases hb),fun b hb=>hb,fun b hb=>by cases hb⟩⟩
       ·cases hx
     obtain⟨vv,ev,ow,vbd,after⟩:=own
     obtain⟨v',w',r1,r2,r3,r4,r5⟩:=QE (P:=P) (ty:=ty) (hT t _ hd) he ow y1 (by simpa using y2) (fun u hu=>by obtain⟨v,_,rfl⟩:=List.mem_map.1 hu;exact Jcz _ _) q3
     obtain⟨p1,p2,p3,p4,p5⟩:=after w' r4
     obtain⟨b1,b2⟩:=QF r3
     obtain⟨_,c2⟩:=QF ow
     have hpre0:=JbC (Qg (γ κ)) v'
     rw[←a1.skv] at hpre0
     have hall:∀u∈AH.view H v++ys,u.bd≤H.length:=fun u hu=>by
      rcases List.mem_append.1 hu with hu|hu
      ·exact vbd u hu
      ·exact y3 u hu
     have hnew:(MO.row e sz (AH.view H v++ys)).at w' (skV (Qg (γ κ)++[v'])) v':=by
      refine JdG (n:=v.len+m) i6 ?_
      rw[Qd hpre0 (by rw[a1.len];exact hall),List.map_append]
      exact r3
     obtain⟨s1,s2,s3⟩:=p1.push (w':=w') (v:=v') (o:= .row e sz (AH.view H v++ys)) (fun _ _=>rfl) hnew (by rw[p2];exact Nat.le_trans (Yr hall) (by omega)) (fun b hb hb'=>by
      rw[b1] at hb
      rcases r5 b hb with h1|h1
      ·exact p3 b h1 hb'
      ·have:=a1.lt (p4 b hb')
       omega)
     have hlen:(MV.dies v H++[MO.row e sz (AH.view H v++ys)]).length=H.length+1:=by simp[p2]
     obtain⟨γ',g2,I'⟩:=I.arTurn [(κv,.slc H.length sz 0 (v.len+m))] hk hfk s1 s2 (fun p hp=>by
       simp only[List.mem_singleton] at hp
       subst hp
       exact⟨hfv,by simp[MV.bd,p2]⟩) (by simp) (by simp;exact hvk)
      ⟨r4.os,r4.tape,r4.output,r4.size,fun k hk' hne=>r4.block k hk' (fun e=>hne (.inr (p5 k (by rw[←c2];exact e.symm))))⟩ (fun b hb=>by
       rcases s3 b hb with h1|⟨_,h1⟩
       ·exact .inr (p4 b h1)
       ·rw[b1] at h1
        rcases r5 b h1 with h2|h2
        ·exact .inr (p5 b h2)
        ·exact .inl h2)
     refine⟨v',w',by simpa[ev,ey] using r1,γ',?_,⟨trivial,trivial⟩,I'⟩
     show _=γ' κv
     rw[g2 (κv,.slc H.length sz 0 (v.len+m)) (by simp)]
     have:YG (skV (Qg (γ κ)++[v'])) H.length=v':=by rw[←a1.len,YS]
     simp only[MV.den,this]
     exact(Je3 r3).symm
   ·cases h
 ·cases h
theorem JgQ (hT:TOk P T) {e:TypeId} {z:List MV} (h:JkW (T e)=some z):∃mv u,z=[mv]∧(∀s,mv.den s=u)∧mv.bd=0∧u.oneCell'=true∧∀w,(zeroValue e).run P w= .ok u w:=by
 cases hd:T e with
 |none=>rw[hd] at h;cases h
 | some d=>
  rw[hd] at h
  have hok:=hT e _ hd
  cases d<;>first
   |(cases h;done)
   |(simp only [JkW,Option.some.injEq] at h;subst h;exact⟨_,_,rfl,fun _=>rfl,rfl,rfl,fun w=>(VO hok.2 w).2⟩)
theorem Jde (u:Value) (n:Nat):(Builtin.zeroCells #[u] n).toList=List.replicate n u:=by
 have:=toList_madeCells_one u n
 simp only[madeCells] at this
 simpa[Builtin.zeroCells] using this
theorem Jkj {α:Type} (x:α) (n:Nat):(List.replicate n [x]).flatten=List.replicate n x:=by
 induction n with
 |zero=>rfl
 |succ n ih=>simp[List.replicate_succ,ih]
theorem Jl6 (H:AH) (v:MV) (j:Nat):AH.wr H v j []=H:=by
 have e:∀o:MO,o.put (v.ix j) []=o:=fun o=>by cases o<;>simp[MO.put,Jgw]
 unfold AH.wr
 rw[e]
 apply List.ext_getElem?
 intro i
 by_cases h:v.ob=i
 ·subst h
  rcases Nat.lt_or_ge v.ob H.length with h1|h1
  ·simp[AH.at,List.getD,h1]
  ·rw[List.getElem?_eq_none (by simpa using h1),List.getElem?_eq_none h1]
 ·rw[List.getElem?_set_ne h]
theorem Ji8 (hT:TOk P T) (I:Inv B N w0 γ σ a w) {κ:Nat} {ns:List Nat} {rw':Bool} {bs:List Nat} {H:AH} (hk:σ (.h κ)=some (.e (.arena rw' bs H))) (hf:∀κ∈ns,NoKey κ σ) {args:Array Operand} {ts:Array TypeId} {ty:TypeId} {eff:Eff}
  (h:arS T σ κ ns rw' bs H (.call ⟨.builtin .clear,args,ts⟩)=some eff) (hn:eff.need):∃v w',(Builtin.clear_ ts ty (args.map a.eval)).run P w= .ok v w'∧Post B N w0 σ a eff v w':=by
 simp only[arS] at h
 split at h
 ·rename_i es κ' κ1 he hx
  obtain⟨e,sz⟩:=es
  cases ha:wvS σ κ bs κ1 with
  |none=>simp[ha] at h
  | some v=>
   simp only[ha,Option.bind_some] at h
   split at h
   ·rename_i z hz
    cases hs1:Nat.beq sz 1 with
    |false=>simp[hs1] at h
    |true=>
    have:=Nat.eq_of_beq_eq_true hs1
    subst this
    simp only[hs1,cond_true,Option.some.injEq] at h
    subst h
    have q2:AH.isRow H 1 v=true:=hn
    have a1:=(I.ent _ _ hk).1
    obtain⟨mv,u,rfl,u1,u2,u3,u4⟩:=JgQ hT hz
    cases ht0:ts[0]? with
    |none=>simp[ht0,Yp] at he
    |some t=>
    simp only[ht0,Option.bind_some] at he
    cases hd:T t with
    |none=>rw[hd] at he;cases he
    |some d=>
    rw[hd] at he
    obtain⟨t1,inf,zz,i1,i2,i3,i4,i5,i6⟩:=Xz (hT t _ hd) he
    cases ha0:args[0]? with
    |none=>simp[ha0] at hx
    |some x=>
    simp only[ha0,Option.bind_some] at hx
    obtain⟨e0',ad,cap,c1,c2,c3⟩:=JfC I hk ha q2 i6
    have e1:a.eval x= .slice ad v.len cap:=by rw[(I.eval hx).1];exact c1
    have hfk:=hf κ' (by simp)
    have clr:AH.clr H v [mv]=AH.wr H v 0 (List.replicate v.len mv):=by unfold AH.clr;rw[Jkj]
    by_cases hl:v.len=0
    ·-- nothing to fill
     have hsame:AH.clr H v [mv]=H:=by rw[clr,hl];exact Jl6 H v 0
     obtain⟨γ',_,I'⟩:=I.arTurn [] hk hfk a1 (SkPre.refl _) (by simp) (by simp) (by simp) (BelowX.refl _ w) (fun b hb=> .inr hb)
     refine⟨.tuple #[],w,?_,γ',rfl,by simp[SV.ok],?_⟩
     ·cases ad with
      |none=>simp[Builtin.clear_,ht0,ha0,run_underlying t1,e1]
      |some ad=>simp[Builtin.clear_,ht0,ha0,run_underlying t1,e1,hl]
     ·rw[hsame];exact I'
    ·have hpos:0<v.len:=by omega
     obtain⟨c4,c5⟩:=c3 hpos
     obtain⟨a0,rfl⟩:=Option.isSome_iff_exists.1 c5
     have hok:AH.ok H v 0 v.len=true:=by
      cases v with
      |slc i s lo n=>
       obtain⟨rfl,e',l',hl',hle⟩:=Yc q2
       simp only[AH.ok,q2,Bool.true_and,MV.ix,MV.ob,AH.fl,hl',MO.flat,MV.len]
       exact Nat.ble_eq_true_of_le (by omega)
      |nils=>simp[MV.len] at hl
      |_=>cases q2
     obtain⟨b,o,ty',A,M,Z,p1,p2,p3,p4,p5,p6,p7⟩:=JkH (vs:=List.replicate v.len mv) a1 hok hpos (by simp) (fun y hy=>by rw[List.eq_of_mem_replicate hy,u2];exact Nat.zero_le _)
     have ea:a0=⟨b,o,none⟩:=by
      rw[←c4,c1] at p1
      simpa[JM,Addr.add] using p1
     subst ea
     have hvs:(List.replicate v.len mv).map (MV.den (γ κ))=List.replicate v.len u:=by rw[List.map_replicate,u1]
     rw[hvs] at p6
     have hst:=run_storeCells_at P b o ty' (List.replicate v.len u) 0 (A++(M++Z)).toArray w p2 (by simp;omega) (fun y hy=>by rw[List.eq_of_mem_replicate hy];exact u3)
     have t2:(A++(M++Z)).take o=A:=by rw[←p3];exact List.take_left
     have t3:(A++(M++Z)).drop (o+v.len)=Z:=by rw[←List.drop_drop,←p3,List.drop_left,←p4];exact List.drop_left
     simp only[Nat.add_zero,List.length_replicate,t2,t3,List.append_assoc] at hst
     obtain⟨γ',_,I'⟩:=I.arTurn [] hk hfk p6 (SkPre.refl _) (by simp) (by simp) (by simp)
      ⟨rfl,rfl,rfl,by simp,fun k _ hne=>setRow_other w b k _ (fun e=>hne (.inr (e▸p5)))⟩ (fun b hb=> .inr (p7 b hb))
     refine⟨.tuple #[],_,?_,γ',rfl,by simp[SV.ok],by rw[clr];exact I'⟩
     obtain⟨n,hn'⟩:∃n,v.len=n+1:=⟨v.len- 1,by omega⟩
     have hcells:u.cells= #[u]:=Va u3
     rw[hn'] at e1 hst
     simp[Builtin.clear_,ht0,ha0,run_underlying t1,e1,u4,hcells,Jde,hst,hn']
   ·cases h
 ·cases h
theorem JeT (I:Inv B N w0 γ σ a w) {κ κ' κv:Nat} {bs:List Nat} {H:AH} (hk:σ (.h κ)=some (.e (.arena true bs H))) (hf:NoKey κ' σ) (hfv:NoKey κv σ) (hne:κ'≠κv) {e:TypeId} {l:List MV} {w':World} {v:Value} (hl0:∀u∈l,u.bd=0)
  (ho:∀s,(MO.row e 1 l).at w' s v) (ho2:w'.ownsRow w.heap.size e 1 v l.length (l.map (MV.den undef))) (hg:BelowX (fun b=>w.heap.size≤b) w w'):
  ∃γ',γ' κv=v∧Inv B N w0 γ' (Wl σ [(κ',.arena true (κ::bs) (H++[.row e 1 l])),(κ,.dead),(κv,.apt κ' (.slc H.length 1 0 l.length))]) a w':=by
 have a1:=(I.ent _ _ hk).1
 have hlt:∀b,Ve (γ κ) H b→b<w.heap.size:=fun b hb=>a1.lt hb
 have ho3:w'.ownsRow 0 e 1 v l.length (l.map (MV.den undef)):=⟨ho2.1,by
  rcases ho2.2 with h|⟨g,cap,cur,h1,h2,h3⟩
  ·exact .inl h
  ·exact .inr ⟨g,cap,cur,h1,Nat.zero_le _,h3⟩⟩
 obtain⟨b1,b2⟩:=QF ho3
 have hnew:∀b,QS v=some b→w.heap.size≤b:=fun b hb=>by
  rcases ho2.2 with⟨h1,_⟩|⟨g,cap,cur,h1,h2,_⟩
  ·rw[h1] at hb;cases hb
  ·rw[h1] at hb
   simp only[QS,Option.some.injEq] at hb
   omega
 obtain⟨p1,p2,p3⟩:=a1.push (w':=w') (v:=v) (o:= .row e 1 l) (fun b hb=>hg.block b (hlt b hb) (by have:=hlt b hb;omega)) (ho _)
  (Nat.le_trans (Yr (n:=0) fun u hu=>by rw[hl0 u hu];exact Nat.le_refl 0) (Nat.zero_le _)) (fun b hb hb'=>by have:=hnew b hb;have:=hlt b hb';omega)
 obtain⟨γ',g2,I'⟩:=I.arTurn [(κv,.slc H.length 1 0 l.length)] hk hf p1 p2 (fun p hp=>by
   simp only[List.mem_singleton] at hp
   subst hp
   exact⟨hfv,by simp[MV.bd]⟩) (by simp) (by simp;exact hne) (hg.mono fun b _ h=> .inl h) (fun b hb=>by
    rcases p3 b hb with h1|⟨_,h1⟩
    ·exact .inr h1
    ·exact .inl (hnew b h1))
 refine⟨γ',?_,I'⟩
 rw[g2 (κv,.slc H.length 1 0 l.length) (by simp)]
 have:YG (skV (Qg (γ κ)++[v])) H.length=v:=by rw[←a1.len,YS]
 simp only[MV.den,this]
 exact Je3 ho3
theorem JgC (hT:TOk P T) (I:Inv B N w0 γ σ a w) {κ:Nat} {ns:List Nat} {rw':Bool} {bs:List Nat} {H:AH} (hk:σ (.h κ)=some (.e (.arena rw' bs H))) (hf:∀κ∈ns,NoKey κ σ) (hnd:ns.Nodup) {t:TypeId} {x y:Operand} {eff:Eff}
  (h:arS T σ κ ns rw' bs H (.makeSlice t x y)=some eff) (hn:eff.need):∃v w',(Instr.makeSlice t (a.eval x) (a.eval y)).run P w= .ok v w'∧Post B N w0 σ a eff v w':=by
 simp only[arS] at h
 split at h
 ·rename_i e k1 n k2 m κ' κv hd hx hy
  split at h
  ·rename_i hde
   simp only[Option.some.injEq] at h
   subst h
   obtain⟨hnm,h0,h1⟩:n=m∧0≤n∧n≤YJ:=hn
   subst hnm
   obtain⟨t1,i,z,hi,hisz,hz,hzs,hby,hp,_⟩:=VZ (hT t _ hd)
   have hez:=(hT e _ hde).2
   rw[hi] at hez
   simp only[Option.map_some,Option.some.injEq,Prod.mk.injEq] at hez
   have hz0:i.zero=some (.bool false):=hez.2
   obtain⟨q,rfl⟩:=Int.eq_ofNat_of_zero_le h0
   have hq:q≤1099511627776:=by have:((q:Nat):Int)≤1099511627776:=h1;omega
   have ex:a.eval x= .int k1 q:=(I.eval hx).1
   have ey:a.eval y= .int k2 q:=(I.eval hy).1
   obtain⟨w',r1,r2,r3⟩:=run_make_full (P:=P) w w.heap.size t e i (.bool false) 1 t1 hi hz0 hisz k1 k2 q (by have:=Nat.mul_le_mul hby hq;omega) (by simp only[maxLen];omega) (Nat.le_refl _)
   have e1:(madeCells (Value.bool false).cells (q*1)).toList=List.replicate q (.bool false):=by
    simp only[Value.cells,Nat.mul_one,toList_madeCells_one]
   rw[e1] at r2
   have hl:(List.replicate q (MV.bool false)).length=q:=List.length_replicate
   have hmap:∀s,(List.replicate q (MV.bool false)).map (MV.den s)=List.replicate q (.bool false):=fun s=>by rw[List.map_replicate];rfl
   have r20:w'.ownsRow 0 e 1 (.slice (some ⟨w.heap.size,0,none⟩) q q) q (List.replicate q (.bool false)):=⟨r2.1,by
    rcases r2.2 with h|⟨g,cap,cur,h1,h2,h3⟩
    ·exact .inl h
    ·exact .inr ⟨g,cap,cur,h1,Nat.zero_le _,h3⟩⟩
   obtain⟨γ',g2,I'⟩:=JeT I hk (hf κ' (by simp)) (hf κv (by simp)) (fun e=>by subst e;simp at hnd) (l:=List.replicate q (.bool false)) (w':=w') (v:= .slice (some ⟨w.heap.size,0,none⟩) q q) (e:=e)
    (fun u hu=>by rw[List.eq_of_mem_replicate hu];rfl) (fun s=>JdG (n:=q) (Nat.le_refl 1) (by rw[hmap];exact r20)) (by rw[hl,hmap];exact r2) ⟨r3.os,r3.tape,r3.output,r3.size,fun k hk' _=>r3.block k hk' (by simp)⟩
   rw[hl] at I'
   exact⟨_,w',by rw[ex,ey];exact r1,γ',g2.symm,⟨trivial,trivial⟩,I'⟩
  ·cases h
 ·cases h
theorem JeE (I:Inv B N w0 γ σ a w):∀(ps:List (Nat×Operand)) (i:Nat) (l:List MV),boolL σ i ps=some l→l.length=ps.length∧(∀u∈l,u.bd=0)∧∀s,ps.map (fun p=>a.eval p.2)=l.map (MV.den s)
 |[],_,l,h=>by simp only[boolL,Option.some.injEq] at h;subst h;exact⟨rfl,fun u hu=>(by cases hu),fun _=>rfl⟩
 | (j,x)::r,i,l,h=>by
  simp only[boolL] at h
  cases hij:Nat.beq i j with
  |false=>simp[hij] at h
  | true=>
   simp only[hij,cond_true] at h
   split at h
   ·rename_i b l' hx hl
    simp only[Option.some.injEq] at h
    subst h
    obtain⟨h1,h2,h3⟩:=JeE I r (i+1) l' hl
    refine⟨by simp[h1],fun u hu=> ?_,fun s=> ?_⟩
    ·rcases List.mem_cons.1 hu with rfl|hu
     ·rfl
     ·exact h2 u hu
    ·simp only[List.map_cons,h3 s,(I.eval hx).1]
     rfl
   ·cases h
theorem Jiq (hT:TOk P T) (I:Inv B N w0 γ σ a w) {κ:Nat} {ns:List Nat} {rw':Bool} {bs:List Nat} {H:AH} (hk:σ (.h κ)=some (.e (.arena rw' bs H))) (hf:∀κ∈ns,NoKey κ σ) (hnd:ns.Nodup) {t:TypeId} {n:Nat} {ps:Array (Nat×Operand)} {eff:Eff}
  (h:arS T σ κ ns rw' bs H (.buildSlice t n ps)=some eff):∃v w',(Instr.buildSlice t n (ps.map fun p=>(p.1,a.eval p.2))).run P w= .ok v w'∧Post B N w0 σ a eff v w':=by
 simp only[arS] at h
 split at h
 ·rename_i e κ' κv hd
  split at h
  ·rename_i l hde hl
   cases hc:(Nat.beq l.length n&&Nat.beq n 1) with
   |false=>simp[hc] at h
   | true=>
    simp only[hc,cond_true,Option.some.injEq] at h
    subst h
    simp only[Bool.and_eq_true] at hc
    have h1:=Nat.eq_of_beq_eq_true hc.1
    have h2:=Nat.eq_of_beq_eq_true hc.2
    subst h2
    obtain⟨t1,i,z,hi,hisz,hz,hzs,hby,hp,_⟩:=VZ (hT t _ hd)
    have hez:=VO (hT e _ hde).2 w
    obtain⟨b1,b2,b3⟩:=JeE I _ _ _ hl
    obtain⟨⟨j,x⟩,hps⟩:∃p,ps.toList=[p]:=List.length_eq_one_iff.1 (by omega)
    rw[hps] at hl b3
    have hj:j=0:=by
     simp only[boolL] at hl
     cases hij:Nat.beq 0 j with
     |false=>simp[hij] at hl
     |true=>exact(Nat.eq_of_beq_eq_true hij).symm
    subst hj
    obtain⟨m,rfl⟩:∃m,l=[m]:=List.length_eq_one_iff.1 h1
    have hev:a.eval x=m.den undef:=by simpa using b3 undef
    have hev':∀s,m.den s=a.eval x:=fun s=>by simpa using (b3 s).symm
    have Jz:=Jcz undef m
    have hcells:(m.den undef).cells= #[m.den undef]:=Va Jz
    have hr:(Instr.buildSlice t 1 (ps.map fun p=>(p.1,a.eval p.2))).run P w= .ok (.slice (some ⟨w.heap.size,0,none⟩) 1 1) (w.alloc (.cells #[m.den undef] e)):=by
     have e1:(ps.map fun p=>(p.1,a.eval p.2)).toList=[(0,m.den undef)]:=by simp[hps,hev]
     unfold Instr.buildSlice
     simp only[Sem.run_bind,run_underlying t1,Result.andThen_ok,hez.1,Nat.mul_one,if_neg (show ¬(1:Nat)>2^24 by decide),if_neg (show ¬(1:Nat)=0 by decide),hez.2,Sem.run_pure,e1]
     have hz1:(Value.bool false).cells= #[.bool false]:=rfl
     have hr1:Array.range 1= #[0]:=rfl
     simp[Instr.fill,hcells,hz1,newRow,hr1]
    obtain⟨γ',g2,I'⟩:=JeT I hk (hf κ' (by simp)) (hf κv (by simp)) (fun e=>by subst e;simp at hnd) (l:=[m]) (w':=w.alloc (.cells #[m.den undef] e)) (v:= .slice (some ⟨w.heap.size,0,none⟩) 1 1) (e:=e)
     b2 (fun s=>JdG (n:=1) (Nat.le_refl 1) ⟨by simp,.inr ⟨w.heap.size,1, #[m.den undef],rfl,Nat.zero_le _,heap_alloc_new w _,Nat.le_refl 1,by simp[maxLen],rfl,by simp[(hev' s).trans hev]⟩⟩)
     ⟨by simp,.inr ⟨w.heap.size,1, #[m.den undef],rfl,Nat.le_refl _,heap_alloc_new w _,Nat.le_refl 1,by simp[maxLen],rfl,by simp⟩⟩ ⟨rfl,rfl,rfl,by simp,fun k hk' _=>heap_alloc_old w _ k hk'⟩
    exact⟨_,_,hr,γ',g2.symm,⟨trivial,trivial⟩,I'⟩
  ·cases h
 ·cases h
theorem JdL (γ:Nat→Value) (s:Value):∀{ls:List Leaf} {vs:List MV},mvZ ls=some vs→Jq γ ls=vs.map (MV.den s)∧∀v∈vs,v.bd=0
 |[],vs,h=>by simp only[mvZ,Option.some.injEq] at h;subst h;exact⟨rfl,by simp⟩
 | x::r,vs,h=>by
  have go:∀(m:MV),(mvZ r).map (fun l=>m::l)=some vs→x.cells γ=[m.den s]→m.bd=0→Jq γ (x::r)=vs.map (MV.den s)∧∀v∈vs,v.bd=0:=fun m hm hx hb=>by
   cases hr:mvZ r with
   |none=>simp[hr] at hm
   |some l=>
    simp only[hr,Option.map_some,Option.some.injEq] at hm
    subst hm
    obtain⟨h1,h2⟩:=JdL γ s hr
    refine⟨by rw[JP,hx,h1];rfl,fun v hv=> ?_⟩
    rcases List.mem_cons.1 hv with rfl|hv
    ·exact hb
    ·exact h2 v hv
  cases x with
  |int k n=>exact go (.int k n) h rfl rfl
  |bool b=>exact go (.bool b) h rfl rfl
  |nilp=>exact go .nilp h rfl rfl
  |nils=>exact go .nils h rfl rfl
  |nilm=>exact go .nilm h rfl rfl
  |_=>simp[mvZ] at h
theorem Jj2 (hT:TOk P T) (I:Inv B N w0 γ σ a w) {κ:Nat} {ns:List Nat} {rw':Bool} {bs:List Nat} {H:AH} (hk:σ (.h κ)=some (.e (.arena rw' bs H))) (hf:∀κ∈ns,NoKey κ σ) (hnd:ns.Nodup) {t:TypeId} {eff:Eff}
  (h:arS T σ κ ns rw' bs H (.alloc t)=some eff):∃v w',(Instr.alloc t true (.tuple #[])).run P w= .ok v w'∧Post B N w0 σ a eff v w':=by
 simp only[arS] at h
 split at h
 ·rename_i n e sz z κ' κv hd
  cases hz:mvZ z with
  |none=>simp[hz] at h
  | some vs=>
   simp only[hz,Option.bind_some,Option.some.injEq] at h
   subst h
   obtain⟨h1,h2,h3,h4,h5⟩:=hT t _ hd
   have a1:=(I.ent _ _ hk).1
   have hlt:∀b,Ve (γ κ) H b→b<w.heap.size:=fun b hb=>a1.lt hb
   have hzs:∀s,Jq γ z=vs.map (MV.den s):=fun s=>(JdL γ s hz).1
   have hz0:=(JdL γ undef hz).2
   have hr:(Instr.alloc t true (.tuple #[])).run P w= .ok (.pointer (some ⟨w.heap.size,0,none⟩)) (w.alloc (.cells (Jq γ z).toArray t)):=by
    have:=(VO (h4 γ) w).2
    simp[Instr.alloc,this,newVar,newRow,Value.cells]
   refine⟨_,_,hr,?_⟩
   have hnew:∀s,(MO.cells t vs).at (w.alloc (.cells (Jq γ z).toArray t)) s (.pointer (some ⟨w.heap.size,0,none⟩)):=fun s=>by
    refine⟨w.heap.size,rfl,?_⟩
    rw[heap_alloc_new,hzs s]
   have hpre:=JbC (Qg (γ κ)) (.pointer (some ⟨w.heap.size,0,none⟩))
   rw[←a1.skv] at hpre
   obtain⟨p1,p2,p3⟩:=a1.push (w':=w.alloc (.cells (Jq γ z).toArray t)) (v:= .pointer (some ⟨w.heap.size,0,none⟩)) (o:= .cells t vs) (fun b hb=>heap_alloc_old w _ b (hlt b hb))
    (hnew _) (Nat.le_trans (Yr (n:=0) fun v hv=>by rw[hz0 v hv];exact Nat.le_refl 0) (Nat.zero_le _)) (fun b hb hb'=>by
     simp only[QS,Option.some.injEq] at hb
     have:=hlt b hb'
     omega)
   have hfk:=hf κ' (by simp)
   have hfv:=hf κv (by simp)
   have hvk:κv≠κ':=fun e=>by
    subst e
    simp at hnd
   have hv:YG (skV (Qg (γ κ)++[.pointer (some ⟨w.heap.size,0,none⟩)])) H.length= .pointer (some ⟨w.heap.size,0,none⟩):=by rw[←a1.len,YS]
   obtain⟨γ',g1,g2,I'⟩:=I.arMove (names:=[(κv,.ptr H.length 0)]) [] hk hfk p1 p2 (by simp) (by simp)
    (fun q hq=>by
     simp only[List.mem_cons,List.not_mem_nil,or_false] at hq
     subst hq
     exact⟨.inl hfv,by simp[MV.bd]⟩)
    (by simp)
    (fun hm=>by
     simp only[List.map_cons,List.map_nil,List.mem_cons,List.not_mem_nil,or_false] at hm
     exact hvk hm.symm)
    (by simp)
    ⟨rfl,rfl,rfl,by simp,fun k hk' _=>heap_alloc_old w _ k hk'⟩ (fun b hb=>by
     rcases p3 b hb with h1|⟨_,h1⟩
     ·exact .inr ⟨κ,_,.inl rfl,hk,h1⟩
     ·simp only[QS,Option.some.injEq] at h1
      exact .inl (by omega))
   refine⟨γ',?_,⟨trivial,trivial⟩,I'⟩
   show _=γ' κv
   rw[g2 (κv,.ptr H.length 0) (by simp)]
   simp only[MV.den,hv,JM,Jn]
 ·cases h
theorem Jf9 (op:BinOp) (t:TypeId) (x y:Operand) (n:Option Addr) (b:Value):(eqGuard op t x y (.pointer n) b).run P w= .ok () w:=by
 unfold eqGuard;split<;>rfl
theorem JdS (hT:TOk P T) (I:Inv B N w0 γ σ a w) {κ:Nat} {ns:List Nat} {rw':Bool} {bs:List Nat} {H:AH} (hk:σ (.h κ)=some (.e (.arena rw' bs H))) (hf:∀κ∈ns,NoKey κ σ) (hnd:ns.Nodup) {o:Oper} {eff:Eff}
  (h:arS T σ κ ns rw' bs H o.op=some eff) (hn:eff.need):RunOk P (execOp a.eval o) w (Post B N w0 σ a eff):=by
 obtain⟨dst,op,ty,pos,after,guard⟩:=o
 simp only at h
 cases op with
 |load t x=>obtain⟨v,w',h1,h2⟩:=JkU hT I hk hf h hn;exact Jm h1 h2
 |store t x y=>
  obtain⟨w',h0,h1,γ',h2⟩:=JjA hT I hk hf h hn
  obtain⟨ev,ew,en⟩:=eff
  simp only at h0
  subst h0
  exact JeY h1 ⟨γ',rfl,by intro x hx;simp at hx,h2⟩
 |alloc t=>
  obtain⟨v,w',h1,h2⟩:=Jj2 hT I hk hf hnd h
  exact Jm h1 h2
 | box t x=>
  obtain⟨l,h1,h2⟩:=Jme I hk hf hnd h
  have hr:(Instr.box t (a.eval x)).run P w= .ok (.pointer (some ⟨w.heap.size,0,none⟩)) (w.alloc (.cells l t)):=by
   simp[Instr.box,h1,newVar,newRow,Value.cells]
  exact Jm hr h2
 |nilCheck x=>
  obtain⟨ad,h1,h2⟩:=Jma I hk h hn
  have hex:execOp a.eval ⟨dst,.nilCheck x,ty,pos,after,guard⟩=pure (.value (a.eval x)):=by simp only[execOp,h1]
  rw[hex]
  exact RunOk.pureV h2
 |fieldAddr t x f=>obtain⟨v,h1,h2⟩:=JjM hT I hk h hn;exact Jm h1 h2
 |indexAddr t x i=>obtain⟨v,h1,h2⟩:=Jjy hT I hk h hn;exact Jm h1 h2
 |lookup t x k c=>obtain⟨v,h1,h2⟩:=Jie hT I hk hf h hn;exact Jm h1 h2
 |mapUpdate t x k y=>
  obtain⟨w',h0,h1,γ',h2⟩:=JhQ hT I hk hf h hn
  obtain⟨ev,ew,en⟩:=eff
  simp only at h0
  subst h0
  exact JeY h1 ⟨γ',rfl,by intro x hx;simp at hx,h2⟩
 | binOp op t x y t'=>
  obtain⟨e,ad,b,t1,ex,ey,ho,hb,h2⟩:=Jl9 hT I hk h hn
  rcases ho with rfl|rfl
  ·have hr:(do eqGuard .eql t x y (a.eval x) (a.eval y);binOp .eql t (a.eval x) (a.eval y):Sem Value).run P w= .ok (.bool b) w:=by
    rw[ex,ey]
    simp only[Sem.run_bind,Jf9,Result.andThen_ok]
    rw[run_eql_pointer_nil w t _ (by simp[Program.pointee,t1])]
    cases ad with
    |none=>rw[hb.2 rfl];rfl
    |some ad=>cases b with
     |true=>cases hb.1 rfl
     |false=>rfl
   exact Jm hr h2
  ·have hr:(do eqGuard .neq t x y (a.eval x) (a.eval y);binOp .neq t (a.eval x) (a.eval y):Sem Value).run P w= .ok (.bool (!b)) w:=by
    rw[ex,ey]
    simp only[Sem.run_bind,Jf9,Result.andThen_ok]
    rw[run_neq_pointer_nil w t _ (by simp[Program.pointee,t1])]
    cases ad with
    |none=>rw[hb.2 rfl];rfl
    |some ad=>cases b with
     |true=>cases hb.1 rfl
     |false=>rfl
   exact Jm hr h2
 |slice t x lo hi mx=>cases mx with
  |none=>obtain⟨v,h1,h2⟩:=JmB hT I hk hf h hn;exact Jm h1 h2
  |some m=>simp[arS] at h
 |makeMap t r=>
  obtain⟨h1,h2⟩:=JjP I hk hf hnd h
  subst h1
  have hr:(Instr.makeMap t none).run P w= .ok (.map (some w.heap.size)) (w.alloc (.map #[] 0)):=by simp[Instr.makeMap]
  exact Jm hr h2
 |makeSlice t x y=>obtain⟨v,w',h1,h2⟩:=JgC hT I hk hf hnd h hn;exact Jm h1 h2
 |buildSlice t n ps=>obtain⟨v,w',h1,h2⟩:=Jiq hT I hk hf hnd h;exact Jm h1 h2
 | call c=>
  obtain⟨callee,args,ts⟩:=c
  cases callee with
  | builtin b=>cases b with
   |len=>
    obtain⟨v,h1,h2⟩:=JmD (ty:=ty) hT I hk h hn
    have hex:execOp a.eval ⟨dst,.call ⟨.builtin .len,args,ts⟩,ty,pos,after,guard⟩=(do pure (.value (←Builtin.len_ ts ty (args.map a.eval)))):=rfl
    rw[hex]
    exact Jm h1 h2
   |append=>
    obtain⟨v,w',h1,h2⟩:=Jii (ty:=ty) hT I hk hf hnd h hn
    have hex:execOp a.eval ⟨dst,.call ⟨.builtin .append,args,ts⟩,ty,pos,after,guard⟩=(do pure (.value (←Builtin.append_ ts ty (args.map a.eval)))):=rfl
    rw[hex]
    exact Jm h1 h2
   |clear=>
    obtain⟨v,w',h1,h2⟩:=Ji8 (ty:=ty) hT I hk hf h hn
    have hex:execOp a.eval ⟨dst,.call ⟨.builtin .clear,args,ts⟩,ty,pos,after,guard⟩=(do pure (.value (←Builtin.clear_ ts ty (args.map a.eval)))):=rfl
    rw[hex]
    exact Jm h1 h2
   |delete=>
    obtain⟨v,w',h1,h2⟩:=Jhj (ty:=ty) hT I hk hf h hn
    have hex:execOp a.eval ⟨dst,.call ⟨.builtin .delete,args,ts⟩,ty,pos,after,guard⟩=(do pure (.value (←Builtin.delete_ ts ty (args.map a.eval)))):=rfl
    rw[hex]
    exact Jm h1 h2
   |_=>simp[arS] at h
  |_=>simp[arS] at h
 |_=>simp[arS] at h
end Go.Gw

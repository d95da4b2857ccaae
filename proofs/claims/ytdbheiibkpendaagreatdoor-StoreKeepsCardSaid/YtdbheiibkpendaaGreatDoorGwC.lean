/- Memory that leads to memory: each operation. -/
import Derived.Test.YtdbheiibkpendaaGreatDoorGwB
namespace Go.Gw
open Go.RowKit
variable {P:Program} {T:TypeId→Option TD} {B:Nat→Prop} {N:Nat} {w0:W0} {γ:Nat→Value} {σ:Stt} {a:Act} {w:World}
theorem Jj1 (v:Value) (i j:Nat) (h:∃b o,JM v i= .pointer (some ⟨b,o,none⟩)) (hv:∀ad,(v= .pointer (some ad)∨∃n c,v= .slice (some ad) n c)→ad.spot=none):JM (JM v i) j=JM v (i+j):=by
 cases v with
 |pointer ad=>cases ad with
  |none=>simp[JM] at h
  |some ad=>simp only[JM];rw[YZ (hv ad (.inl rfl))]
 |slice ad n c=>cases ad with
  |none=>simp[JM] at h
  |some ad=>simp only[JM];rw[YZ (hv ad (.inr ⟨n,c,rfl⟩))]
 |_=>simp[JM] at h
theorem Yc {H:AH} {sz i s lo n:Nat} (h:AH.isRow H sz (.slc i s lo n)=true):s=sz∧∃e l,AH.at H i= .row e sz l∧lo*sz+n*sz≤l.length:=by
 simp only[AH.isRow,Bool.and_eq_true] at h
 obtain⟨h1,h2⟩:=h
 split at h2
 ·rename_i e s' l hl
  simp only[Bool.and_eq_true] at h2
  have e1:=Nat.eq_of_beq_eq_true h1
  have e2:=Nat.eq_of_beq_eq_true h2.1
  subst e1;subst e2
  exact⟨rfl,e,l,hl,Nat.le_of_ble_eq_true h2.2⟩
 ·cases h2
theorem JhK {s v:Value} {e:TypeId} {sz:Nat} {l:List MV} (h:(MO.row e sz l).at w s v) (hl:0<l.length):
  ∃b off n cap c,v= .slice (some ⟨b,off,none⟩) n cap∧w.heap[b]? =some (.cells c e (0,0))∧l.length=n*sz∧1≤sz∧n≤cap∧cap≤maxLen∧c.size=off+cap*sz∧∀t,t<l.length→c[off+t]? =some ((l.getD t .nilp).den s):=by
 obtain⟨n,h1,h0,⟨_,h2⟩|⟨b,off,cap,c,h2,h3,h4,h5,h6,h7,_⟩⟩:=h
 ·subst h2;omega
 ·refine⟨b,off,n,cap,c,h2,h3,h1,h0,h4,h5,h6,fun t ht=> ?_⟩
  have:=congrArg (fun x=>x[t]?) h7
  simp only[List.getElem?_map,List.getElem?_take,List.getElem?_drop] at this
  rw[if_pos (by omega)] at this
  rw[←Array.getElem?_toList,this]
  simp[List.getD,List.getElem?_eq_getElem ht]
def JmY:Value→Nat
 | .pointer (some a)=>a.off
 | .slice (some a) _ _=>a.off
 |_=>0
theorem QM {s:Value} {H:AH} {v:MV} {j n:Nat} (h:Ar w s H) (hok:AH.ok H v j n=true) (hn:1≤n):
  ∃b o c ty,JM (v.den s) j= .pointer (some ⟨b,o,none⟩)∧w.heap[b]? =some (.cells c ty (0,0))∧QS (YG s v.ob)=some b∧(AH.at H v.ob).live=true∧
   o+n≤c.size∧o=JmY (YG s v.ob)+v.ix j∧∀t,t<n→c[o+t]? =some ((AH.rd H v (j+t)).den s):=by
 simp only[AH.ok,Bool.and_eq_true] at hok
 obtain⟨hk,hlen⟩:=hok
 have hlen:=Nat.le_of_ble_eq_true hlen
 have hpos:0<(AH.fl H v.ob).length:=by omega
 have hlt:v.ob<H.length:=by
  rcases Nat.lt_or_ge v.ob H.length with h1|h1
  ·exact h1
  ·simp[AH.fl,Jgr h1,MO.flat] at hpos
 have hob:=h.obj _ hlt
 have base:∃b o0 c ty,(YG s v.ob= .pointer (some ⟨b,o0,none⟩)∨∃m cap sz e l,AH.at H v.ob= .row e sz l∧(AH.fl H v.ob).length=m*sz∧m≤cap∧1≤sz∧YG s v.ob= .slice (some ⟨b,o0,none⟩) m cap)∧w.heap[b]? =some (.cells c ty (0,0))∧
   (AH.at H v.ob).live=true∧∀t,t<(AH.fl H v.ob).length→c[o0+t]? =some (((AH.fl H v.ob).getD t .nilp).den s):=by
  unfold AH.fl at hpos ⊢
  generalize AH.at H v.ob=o at hob hpos
  cases o with
  |cells ty l=>
   obtain⟨b,h1,h2⟩:=hob
   refine⟨b,0,_,ty,.inl h1,h2,rfl,fun t ht=> ?_⟩
   simp only[MO.flat] at ht ⊢
   simp[List.getD,List.getElem?_eq_getElem ht]
  |row e sz l=>
   obtain⟨b,off,m,cap,c,h1,h2,h3,h4,h5,h6,h7,h8⟩:=JhK hob hpos
   exact⟨b,off,c,e,.inr ⟨m,cap,sz,e,l,rfl,h3,h5,h4,h1⟩,h2,rfl,h8⟩
  |map l=>simp[MO.flat] at hpos
  |dead=>simp[MO.flat] at hpos
 obtain⟨b,o0,c,ty,hv,hg,hl,hc⟩:=base
 have hbm:QS (YG s v.ob)=some b:=by
  rcases hv with hv|⟨m,cap,sz,e,l,_,_,_,_,hv⟩<;>rw[hv]<;>rfl
 have hadr:JM (v.den s) j= .pointer (some ⟨b,o0+v.ix j,none⟩):=by
  cases v with
  |ptr i off=>
   simp only[MV.den,MV.ob,MV.ix] at hv ⊢
   rcases hv with hv|⟨m,cap,sz,e,l,_,_,_,_,hv⟩
   ·rw[hv];simp only[JM,Jn,Nat.add_assoc]
   ·rw[hv];simp only[JM,Jn,Nat.add_assoc]
  | slc i sz lo k=>
   simp only at hk
   obtain⟨_,e,l,hl',hle⟩:=Yc hk
   simp only[MV.den,MV.ob,MV.ix] at hv hlen ⊢
   rcases hv with hv|⟨m,cap,sz',e',l',h1,h2,h3,h4,hv⟩
   ·have:=hob
    simp only[MV.ob] at this
    rw[hl'] at this
    obtain⟨_,_,_,h2|⟨_,_,_,_,h2,_⟩⟩:=this
    ·rw[hv] at h2;cases h2.1
    ·rw[hv] at h2;cases h2
   ·rw[hl'] at h1
    cases h1
    have hne:cap≠lo:=fun e=>by
     subst e
     have:cap*sz+j+n≤m*sz:=by rw[←h2];exact hlen
     have:=Nat.mul_le_mul_right sz h3
     omega
    rw[hv]
    simp only[JcD,if_neg hne,JM,Jn,Nat.add_assoc]
  |_=>cases hk
 have hrd:∀t,t<n→c[o0+v.ix j+t]? =some ((AH.rd H v (j+t)).den s):=fun t ht=>by
  have e:v.ix (j+t)=v.ix j+t:=by
   cases v<;>first|(cases hk;done)|(simp only [MV.ix];omega)
  have:=hc (v.ix j+t) (by omega)
  rw[Nat.add_assoc,this,AH.rd,e]
 refine⟨b,o0+v.ix j,c,ty,hadr,hg,hbm,hl,?_,?_,hrd⟩
 ·have:=hrd (n- 1) (by omega)
  have:=(Array.getElem?_eq_some_iff.1 this).1
  omega
 ·rcases hv with hv|⟨m,cap,sz,e,l,_,_,_,_,hv⟩<;>rw[hv]<;>rfl
theorem Jhv (I:Inv B N w0 γ σ a w) {κ:Nat} {rw':Bool} {bs:List Nat} {H:AH} (hk:σ (.h κ)=some (.e (.arena rw' bs H))) {u:SV} {p:MV×Nat×List Prop} (h:JiG σ κ bs u=some p) (hp:Wn p.2.2):
  u.den γ=JM (p.1.den (γ κ)) p.2.1∧p.1.bd≤H.length:=by
 unfold JiG at h
 split at h
 ·rename_i κ'
  cases ha:Xp σ κ bs κ' with
  |none=>simp[ha] at h
  | some v=>
   simp only[ha,Option.map_some,Option.some.injEq] at h
   subst h
   obtain⟨e1,e2⟩:=JT I hk ha
   refine⟨?_,e2⟩
   have hP:v.isP=true:=hp
   show γ κ'=_
   rw[e1]
   cases v with
   |ptr i off=>
    simp only[MV.den]
    generalize YG (γ κ) i=x
    cases x with
    |pointer ad=>cases ad<;>simp[JM,Addr.add]
    |slice ad n c=>cases ad<;>simp[JM,Addr.add]
    |_=>rfl
   |_=>cases hP
 ·rename_i κ' sz i off
  cases ha:Xp σ κ bs κ' with
  |none=>simp[ha] at h
  |some v=>
   simp only[ha,Option.map_some,Option.some.injEq] at h
   subst h
   obtain⟨e1,e2⟩:=JT I hk ha
   refine⟨?_,e2⟩
   show JM (γ κ') _=_
   rw[e1]
 ·cases h
theorem Jb7 (I:Inv B N w0 γ σ a w) {κ:Nat} {rw':Bool} {bs:List Nat} {H:AH} (hk:σ (.h κ)=some (.e (.arena rw' bs H))) {u:SV} {p:MV×Nat×List Prop} (h:JiG σ κ bs u=some p) (hp:Wn p.2.2)
  {n:Nat} (hok:AH.ok H p.1 p.2.1 n=true) (hn:1≤n):
  ∃b o c ty,u.den γ= .pointer (some ⟨b,o,none⟩)∧w.heap[b]? =some (.cells c ty (0,0))∧∀t,t<n→c[o+t]? =some ((AH.rd H p.1 (p.2.1+t)).den (γ κ)):=by
 obtain⟨b,o,c,ty,q1,q2,_,_,_,_,q3⟩:=QM (I.ent _ _ hk).1 hok hn
 exact⟨b,o,c,ty,(Jhv I hk h hp).1.trans q1,q2,q3⟩
theorem Jks {k:IntKind} {v:MV} (h:v.isI k=true):v= .int k v.num:=by
 cases v with
 | int k' n=>
  have:k=k':=by
   have:=Nat.eq_of_beq_eq_true h
   cases k<;>cases k'<;>first|rfl|(simp [kc] at this)
  subst this;rfl
 |_=>cases h
theorem JkG {v:MV} (h:v.isB=true):v= .bool v.tr:=by cases v<;>first|rfl|cases h
theorem Jjk {s:Value} {H:AH} (h:Ar w s H) (i:Nat):∀v∈AH.fl H i,v.bd≤H.length:=by
 have:=h.bd i
 unfold AH.fl
 generalize AH.at H i=o at this
 cases o with
 |cells ty l=>exact JbD this
 |row e sz l=>exact JbD this
 |map l=>intro v hv;cases hv
 |dead=>intro v hv;cases hv
theorem Jmd {s:Value} {H:AH} (h:Ar w s H) (v:MV) (j:Nat):(AH.rd H v j).bd≤H.length:=by
 unfold AH.rd
 rcases Nat.lt_or_ge (v.ix j) (AH.fl H v.ob).length with h1|h1
 ·rw[List.getD_eq_getElem?_getD,List.getElem?_eq_getElem h1]
  exact Jjk h _ _ (List.getElem_mem h1)
 ·rw[List.getD_eq_getElem?_getD,List.getElem?_eq_none h1]
  exact Nat.zero_le _
theorem JbU {t:TypeId} {d:TD} {b o:Nat} {c:Array Value} {ty:TypeId} {u:Value} (hd:d.ok P t) (hA:d.isA=false) (hg:w.heap[b]? =some (.cells c ty (0,0))) (hc:c[o]? =some u):
  (Instr.loadAt t (.pointer (some ⟨b,o,none⟩))).run P w= .ok u w:=by
 have h1:w.cell? ⟨b,o,none⟩=some u:=by rw[cell_of_row w b o c ty (0,0) hg];exact hc
 have:=WZ (P:=P) (t:=t) (hA▸Yt hd w) h1
 simp only[Instr.loadAt,Instr.sureAddr,Sem.run_bind,Sem.run_pure,Result.andThen_ok]
 exact this
theorem JkU (hT:TOk P T) (I:Inv B N w0 γ σ a w) {κ:Nat} {ns:List Nat} {rw':Bool} {bs:List Nat} {H:AH} (hk:σ (.h κ)=some (.e (.arena rw' bs H))) (hf:∀κ∈ns,NoKey κ σ) {t:TypeId} {x:Operand} {eff:Eff}
  (h:arS T σ κ ns rw' bs H (.load t x)=some eff) (hn:eff.need):
  ∃v w',(Instr.loadAt t (a.eval x)).run P w= .ok v w'∧Post B N w0 σ a eff v w':=by
 simp only[arS] at h
 cases hx:Jg σ x with
 |none=>simp[hx] at h
 | some u=>
  simp only[hx,Option.bind_some] at h
  cases ha:JiG σ κ bs u with
  |none=>simp[ha] at h
  | some p=>
   simp only[ha,Option.bind_some] at h
   have e1:a.eval x=u.den γ:=(I.eval hx).1
   have a1:=(I.ent _ _ hk).1
   split at h
   ·rename_i k hd
    simp only[Option.some.injEq] at h
    subst h
    obtain⟨q1,q2⟩:=VU.1 hn
    obtain⟨q1,q3⟩:=WY.1 q1
    have q3:(AH.rd H p.1 p.2.1).isI k=true:=q3
    obtain⟨b,o,c,ty,c1,c2,c5⟩:=Jb7 I hk ha q2 q1 (Nat.le_refl 1)
    have c6:=c5 0 (by omega)
    rw[Nat.add_zero,Nat.add_zero,Jks q3] at c6
    refine⟨.int k (AH.rd H p.1 p.2.1).num,w,?_,γ,rfl,⟨trivial,trivial⟩,I⟩
    rw[e1,c1]
    exact JbU (hT t _ hd) rfl c2 c6
   ·rename_i hd
    simp only[Option.some.injEq] at h
    subst h
    obtain⟨q1,q2⟩:=VU.1 hn
    obtain⟨q1,q3⟩:=WY.1 q1
    have q3:(AH.rd H p.1 p.2.1).isB=true:=q3
    obtain⟨b,o,c,ty,c1,c2,c5⟩:=Jb7 I hk ha q2 q1 (Nat.le_refl 1)
    have c6:=c5 0 (by omega)
    rw[Nat.add_zero,Nat.add_zero,JkG q3] at c6
    refine⟨.bool (AH.rd H p.1 p.2.1).tr,w,?_,γ,rfl,⟨trivial,trivial⟩,I⟩
    rw[e1,c1]
    exact JbU (hT t _ hd) rfl c2 c6
   all_goals first
    |(cases h;done)
    | (simp only[Option.some.injEq] at h
       subst h
       obtain⟨q1,q2⟩:=VU.1 hn
       obtain⟨b,o,c,ty,c1,c2,c5⟩:=Jb7 I hk ha q2 q1 (Nat.le_refl 1)
       have c6:=c5 0 (by omega)
       rw[Nat.add_zero,Nat.add_zero] at c6
       refine⟨(AH.rd H p.1 p.2.1).den (γ κ),w,?_,_,by simp[SV.den,V1.den,Leaf.cells],⟨trivial,trivial⟩,Inv.aptNew I hk (hf _ (by simp)) (Jmd a1 _ _)⟩
       rw[e1,c1]
       exact JbU (hT t _ (by assumption)) rfl c2 c6)
theorem Jkd {l vs:List MV} {j:Nat} (h:j+vs.length≤l.length):(Jgw l j vs).length=l.length:=by
 simp only[Jgw,List.length_append,List.length_take,List.length_drop];omega
theorem Jiz {l vs:List MV} {j n:Nat} (hl:∀v∈l,v.bd≤n) (hv:∀v∈vs,v.bd≤n):∀v∈Jgw l j vs,v.bd≤n:=by
 intro v h
 simp only[Jgw,List.mem_append] at h
 rcases h with h|h|h
 ·exact hl v (List.mem_of_mem_take h)
 ·exact hv v h
 ·exact hl v (List.mem_of_mem_drop h)
theorem Jf0 {l vs:List MV} {j:Nat} (f:MV→Value):(Jgw l j vs).map f=(l.map f).take j++(vs.map f++(l.map f).drop (j+vs.length)):=by
 simp[Jgw,List.map_take,List.map_drop]
theorem JkH {s:Value} {H:AH} {v:MV} {j n:Nat} (h:Ar w s H) (hok:AH.ok H v j n=true) (hn:1≤n) {vs:List MV} (hvs:vs.length=n) (hbd:∀u∈vs,u.bd≤H.length):
  ∃b o ty A M Z,JM (v.den s) j= .pointer (some ⟨b,o,none⟩)∧w.heap[b]? =some (.cells (A++(M++Z)).toArray ty (0,0))∧A.length=o∧M.length=n∧Ve s H b∧
   Ar (w.setRow b (A++(vs.map (MV.den s)++Z)).toArray) s (AH.wr H v j vs)∧∀b,Ve s (AH.wr H v j vs) b→Ve s H b:=by
 obtain⟨b,o,c,ty,q1,q2,q3,q4,q5,q6,_⟩:=QM h hok hn
 have hlt:=WN q4
 have hlen:v.ix j+n≤(AH.fl H v.ob).length:=by
  simp only[AH.ok,Bool.and_eq_true] at hok
  exact Nat.le_of_ble_eq_true hok.2
 have split:c=(c.toList.take o++((c.toList.drop o).take n++c.toList.drop (o+n))).toArray:=by
  have:(c.toList.drop o).take n++c.toList.drop (o+n)=c.toList.drop o:=by
   rw[←List.drop_drop,List.take_append_drop]
  rw[this,List.take_append_drop]
 have q2':=q2
 rw[split] at q2'
 have foot:Ve s H b:=⟨_,q4,q3⟩
 have hob:=h.obj _ hlt
 have new:((AH.at H v.ob).put (v.ix j) vs).at (w.setRow b (c.toList.take o++(vs.map (MV.den s)++c.toList.drop (o+n))).toArray) s (YG s v.ob)∧((AH.at H v.ob).put (v.ix j) vs).bd≤H.length:=by
  have bdo:=Jjk h v.ob
  unfold AH.fl at hlen bdo
  generalize AH.at H v.ob=ob at hob hlen bdo q4
  have hg':=setRow_heap w b c (c.toList.take o++(vs.map (MV.den s)++c.toList.drop (o+n))).toArray ty (0,0) q2
  cases ob with
  |cells ty' l=>
   obtain⟨b',h1,h2⟩:=hob
   rw[h1] at q3 q6
   simp only[QS,Option.some.injEq] at q3
   simp only[JmY,Nat.zero_add] at q6
   subst q3
   rw[q2] at h2
   simp only[Option.some.injEq,Obj.cells.injEq,and_true] at h2
   obtain⟨rfl,rfl⟩:=h2
   refine⟨⟨b',h1,?_⟩,Yr (Jiz bdo hbd)⟩
   rw[hg']
   simp only[Jf0,q6,hvs]
  | row e sz l=>
   obtain⟨n0,r1,r0,⟨_,r2⟩|⟨b',off,cap,c',r2,r3,r4,r5,r6,r7,r8⟩⟩:=hob
   ·simp only[MO.flat] at hlen
    subst r2
    omega
   ·rw[r2] at q3 q6
    simp only[QS,Option.some.injEq] at q3
    simp only[JmY] at q6
    subst q3
    rw[q2] at r3
    simp only[Option.some.injEq,Obj.cells.injEq,and_true] at r3
    obtain⟨rfl,rfl⟩:=r3
    have hlen:v.ix j+n≤l.length:=hlen
    refine⟨⟨n0,by rw[Jkd (by omega)];exact r1,r0,.inr ⟨b',off,cap,_,r2,hg',r4,r5,?_,?_,r8⟩⟩,Yr (Jiz bdo hbd)⟩
    ·simp only[List.size_toArray,List.length_append,List.length_take,List.length_drop,List.length_map,Array.length_toList]
     omega
    ·simp only[Jf0,←r7]
     subst q6
     have hcap:=Nat.mul_le_mul_right sz r4
     have e1:c.toList=c.toList.take off++((c.toList.drop off).take (n0*sz)++(c.toList.drop off).drop (n0*sz)):=by
      rw[List.take_append_drop,List.take_append_drop]
     have lx:(c.toList.take off).length=off:=by simp;omega
     have lL:((c.toList.drop off).take (n0*sz)).length=n0*sz:=by simp;omega
     generalize c.toList.take off=X at e1 lx
     generalize (c.toList.drop off).take (n0*sz)=L at e1 lL
     generalize (c.toList.drop off).drop (n0*sz)=Y at e1
     rw[e1]
     have t1:(X++(L++Y)).take (off+v.ix j)=X++L.take (v.ix j):=by
      rw[←lx,List.take_length_add_append,List.take_append_of_le_length (by omega)]
     have t2:(X++(L++Y)).drop (off+v.ix j+n)=L.drop (v.ix j+n)++Y:=by
      rw[Nat.add_assoc,←lx,List.drop_length_add_append,List.drop_append_of_le_length (by omega)]
     rw[t1,t2,hvs]
     have e3:X++L.take (v.ix j)++(vs.map (MV.den s)++(L.drop (v.ix j+n)++Y))=X++((L.take (v.ix j)++(vs.map (MV.den s)++L.drop (v.ix j+n)))++Y):=by simp
     rw[e3]
     show (List.drop off (X++_)).take _=_
     rw[←lx,List.drop_left]
     have l3:(L.take (v.ix j)++(vs.map (MV.den s)++L.drop (v.ix j+n))).length=n0*sz:=by
      simp only[List.length_append,List.length_take,List.length_drop,List.length_map]
      omega
     rw[←l3,List.take_left]
  |map l=>have:v.ix j+n≤0:=hlen;omega
  |dead=>cases q4
 have S:=h.set (o:=(AH.at H v.ob).put (v.ix j) vs) (w':=w.setRow b (c.toList.take o++(vs.map (MV.den s)++c.toList.drop (o+n))).toArray) q4 (fun b' _ hne=>setRow_other w b b' _ (fun e=>hne (by rw[q3,e]))) new.1 new.2
 exact⟨b,o,ty,_,_,_,q1,q2',by simp;omega,by simp;omega,foot,S.1,S.2⟩
theorem JhV (I:Inv B N w0 γ σ a w) {κ:Nat} {rw':Bool} {bs:List Nat} {H:AH} (hk:σ (.h κ)=some (.e (.arena rw' bs H))) {s:Value} (hs:SkPre (γ κ) s) {m:Nat} (hm:H.length≤m) {o:Option (Nat×MV)}
  (ho:∀p,o=some p→γ p.1=p.2.den s∧p.2.bd≤m) {x:Leaf} {v:MV} (h:JlK σ κ bs o x=some v):x.cells γ=[v.den s]∧v.bd≤m:=by
 have apt:∀κ',Xp σ κ bs κ'=some v→(Leaf.slc κ').cells γ=[v.den s]∧v.bd≤m:=fun κ' h=>by
  obtain⟨e1,e2⟩:=JT I hk h
  have hl:=(I.ent _ _ hk).1.len
  refine⟨?_,by omega⟩
  show [γ κ']=_
  rw[e1,MV.den_pre hs (by omega)]
 cases x with
 |int k n=>cases h;exact⟨rfl,Nat.zero_le _⟩
 |bool b=>cases h;exact⟨rfl,Nat.zero_le _⟩
 |nilp=>cases h;exact⟨rfl,Nat.zero_le _⟩
 |nils=>cases h;exact⟨rfl,Nat.zero_le _⟩
 |nilm=>cases h;exact⟨rfl,Nat.zero_le _⟩
 | slc κ'=>
  simp only[JlK] at h
  split at h
  ·rename_i κ1 v1
   cases hc:Nat.beq κ1 κ' with
   |true=>
    simp only[hc,cond_true,Option.some.injEq] at h
    subst h
    obtain⟨e1,e2⟩:=ho _ rfl
    have:=Nat.eq_of_beq_eq_true hc
    subst this
    refine⟨?_,e2⟩
    show [γ κ1]=_
    rw[e1]
   |false=>
    simp only[hc,cond_false] at h
    exact apt κ' h
  ·exact apt κ' h
 |_=>cases h
theorem Jdj (I:Inv B N w0 γ σ a w) {κ:Nat} {rw':Bool} {bs:List Nat} {H:AH} (hk:σ (.h κ)=some (.e (.arena rw' bs H))) {s:Value} (hs:SkPre (γ κ) s) {m:Nat} (hm:H.length≤m) {o:Option (Nat×MV)}
  (ho:∀p,o=some p→γ p.1=p.2.den s∧p.2.bd≤m):∀{ls:List Leaf} {vs:List MV},mvL σ κ bs o ls=some vs→Jq γ ls=vs.map (MV.den s)∧∀v∈vs,v.bd≤m
 |[],vs,h=>by simp only[mvL,Option.some.injEq] at h;subst h;exact⟨rfl,fun v hv=>by cases hv⟩
 | x::r,vs,h=>by
  simp only[mvL] at h
  split at h
  ·rename_i v l h1 h2
   simp only[Option.some.injEq] at h
   subst h
   obtain⟨e1,e2⟩:=JhV I hk hs hm ho h1
   obtain⟨e3,e4⟩:=Jdj I hk hs hm ho h2
   refine⟨by rw[JP,e1,e3];rfl,fun u hu=> ?_⟩
   rcases List.mem_cons.1 hu with rfl|hu
   ·exact e2
   ·exact e4 u hu
  ·cases h
theorem JbM {σ:Stt}:∀{ls:List Leaf} {y:Nat×MO×Nat},Jag σ ls=some y→∃x∈ls,JaY σ x=some y
 |[],y,h=>by cases h
 | x::r,y,h=>by
  simp only[Jag] at h
  split at h
  ·rename_i y' hy
   cases h
   exact⟨x,by simp,hy⟩
  ·obtain⟨x',h1,h2⟩:=JbM h
   exact⟨x',by simp[h1],h2⟩
theorem Jdg {w:World} {e:TypeId} {v s:Value} {n:Nat} {xs:List Value} {l:List MV} (h:w.ownsRow 0 e 1 v n xs) (hl:xs=l.map (MV.den s)) (hb:l.length=n):(MO.row e 1 l).at w s v∧∀b,QS v=some b→Jw v=some b:=by
 obtain⟨h1,⟨h2,h3⟩|⟨g,cap,cur,h2,_,h3,h4,h5,h6,h7⟩⟩:=h
 ·exact⟨⟨n,by omega,Nat.le_refl 1,.inl ⟨h2,h3⟩⟩,fun b hb=>by rw[h2] at hb;cases hb⟩
 ·refine⟨⟨n,by omega,Nat.le_refl 1,.inr ⟨g,0,cap,cur,h2,h3,h4,h5,by omega,?_,rfl⟩⟩,fun b hb=>by rw[h2] at hb ⊢;exact hb⟩
  rw[List.drop_zero,h7,hl]
theorem JlA {w:World} {e:TypeId} {v:Value} {n:Nat} {xs:List Value} (h:w.ownsRow 0 e 1 v n xs):JcD v 1 0 n=v:=by
 obtain⟨_,⟨h2,h3⟩|⟨g,cap,cur,h2,_⟩⟩:=h
 ·rw[h2];rfl
 ·rw[h2]
  simp[JcD,Addr.add]
theorem JbO (I:Inv B N w0 γ σ a w) {κ κ':Nat} {bs:List Nat} {H H1:AH} (hk:σ (.h κ)=some (.e (.arena true bs H))) {ls:List Leaf} {vs:List MV} {wr:List (Nat×Ent)} (h:Jcc σ κ κ' bs H ls=some (vs,H1,wr)):
  ∃s1 names,wr=JbT κ' names∧Ar w s1 H1∧SkPre (γ κ) s1∧Jq γ ls=vs.map (MV.den s1)∧(∀v∈vs,v.bd≤H1.length)∧(∀b,Ve s1 H1 b→YM σ γ w (fun x=>x=κ∨x∈names.map (·.1)) b)∧
   (∀p∈names,(∃e,σ (.h p.1)=some (.e e)∧e.mut=true)∧γ p.1=p.2.den s1∧p.2.bd≤H1.length∧p.1≠κ)∧(names.map (·.1)).Nodup∧H.length≤H1.length∧∀i,i<H.length→AH.at H1 i=AH.at H i:=by
 have a1:=(I.ent _ _ hk).1
 have reg:∀b,Ve (γ κ) H b→YM σ γ w (fun x=>x=κ∨x∈([]:List Nat)) b:=fun b hb=> .inr ⟨κ,_,.inl rfl,hk,hb⟩
 unfold Jcc at h
 split at h
 ·rename_i κ1 o n hf
  cases hm:mvL σ κ bs (some (κ1,.slc H.length 1 0 n)) ls with
  |none=>simp[hm] at h
  | some vs'=>
   simp only[hm,Option.map_some,Option.some.injEq,Prod.mk.injEq] at h
   obtain⟨rfl,rfl,rfl⟩:=h
   obtain⟨x,_,hx⟩:=JbM hf
   have own:∃e xs,σ (.h κ1)=some (.e e)∧e.mut=true∧e.plain=true∧(∀b,Jw (γ κ1)=some b→e.reg γ w κ1 b)∧(∃t,w.ownsRow 0 t 1 (γ κ1) n xs)∧(∀s,o.at w s (γ κ1))∧o.bd=0∧o.live=true∧∀b,QS (γ κ1)=some b→Jw (γ κ1)=some b:=by
    unfold JaY at hx
    split at hx
    ·rename_i κ2
     split at hx
     ·rename_i e k l hl
      simp only[Option.some.injEq,Prod.mk.injEq] at hx
      obtain⟨rfl,rfl,rfl⟩:=hx
      have hrow:=(I.key hl).2.1
      have e0:(l.map (.int k):List Value)=(l.map (MV.int k)).map (MV.den undef):=by rw[List.map_map];rfl
      refine⟨_,_,(I.key hl).1,rfl,rfl,fun b hb=>hb,⟨e,hrow⟩,fun s=>(Jdg hrow (by rw[List.map_map];rfl) (by simp)).1,?_,rfl,(Jdg (s:=undef) hrow e0 (by simp)).2⟩
      exact Nat.le_zero.1 (Yr fun v hv=>by obtain⟨y,_,rfl⟩:=List.mem_map.1 hv;exact Nat.le_refl 0)
     ·rename_i e l hl
      simp only[Option.some.injEq,Prod.mk.injEq] at hx
      obtain⟨rfl,rfl,rfl⟩:=hx
      have hrow:=(I.key hl).2.1
      have e0:(l.map .bool:List Value)=(l.map MV.bool).map (MV.den undef):=by rw[List.map_map];rfl
      refine⟨_,_,(I.key hl).1,rfl,rfl,fun b hb=>hb,⟨e,hrow⟩,fun s=>(Jdg hrow (by rw[List.map_map];rfl) (by simp)).1,?_,rfl,(Jdg (s:=undef) hrow e0 (by simp)).2⟩
      exact Nat.le_zero.1 (Yr fun v hv=>by obtain⟨y,_,rfl⟩:=List.mem_map.1 hv;exact Nat.le_refl 0)
     ·cases hx
    ·cases hx
   obtain⟨e,xs,o1,o2,o3,o4,⟨t,o5⟩,o6,o7,o8,o9⟩:=own
   have hne:κ1≠κ:=fun e'=>by
    subst e'
    rw[o1] at hk
    simp only[Option.some.injEq,Cont.e.injEq] at hk
    subst hk
    cases o3
   have apart:∀b,QS (γ κ1)=some b→¬Ve (γ κ) H b:=fun b hb hb'=>I.apart κ1 e κ _ o1 hk hne o2 b (o4 b (o9 b hb)) hb'
   obtain⟨p1,p2,p3⟩:=a1.push (v:=γ κ1) (o:=o) (fun _ _=>rfl) (o6 _) (by omega) apart
   have hnew:YG (skV (Qg (γ κ)++[γ κ1])) H.length=γ κ1:=by rw[←a1.len,YS]
   have hden:γ κ1=(MV.slc H.length 1 0 n).den (skV (Qg (γ κ)++[γ κ1])):=by
    simp only[MV.den,hnew,JlA o5]
   obtain⟨m1,m2⟩:=Jdj I hk p2 (m:=(H++[o]).length) (by simp) (by
    intro p hp
    simp only[Option.some.injEq] at hp
    subst hp
    exact⟨hden,by simp[MV.bd]⟩) hm
   refine⟨_,[(κ1,.slc H.length 1 0 n)],rfl,p1,p2,m1,m2,fun b hb=> ?_,fun p hp=> ?_,by simp,by simp,fun i hi=>JaG hi⟩
   ·rcases p3 b hb with h1|⟨_,h1⟩
    ·exact .inr ⟨κ,_,.inl rfl,hk,h1⟩
    ·exact .inr ⟨κ1,e,.inr (by simp),o1,o4 b (o9 b h1)⟩
   ·simp only[List.mem_singleton] at hp
    subst hp
    exact⟨⟨e,o1,o2⟩,hden,by simp[MV.bd],hne⟩
 ·cases hm:mvL σ κ bs none ls with
  |none=>simp[hm] at h
  |some vs'=>
   simp only[hm,Option.map_some,Option.some.injEq,Prod.mk.injEq] at h
   obtain⟨rfl,rfl,rfl⟩:=h
   obtain⟨m1,m2⟩:=Jdj I hk (SkPre.refl _) (Nat.le_refl _) (fun p hp=>by cases hp) hm
   exact⟨γ κ,[],rfl,a1,SkPre.refl _,m1,m2,fun b hb=> .inr ⟨κ,_,.inl rfl,hk,hb⟩,(fun p hp=>by cases hp),by simp,Nat.le_refl _,fun _ _=>rfl⟩
theorem Jm9 {H H1:AH} (he:∀i,i<H.length→AH.at H1 i=AH.at H i) {v:MV} {j n:Nat} (h:AH.ok H v j n=true) (hn:1≤n):AH.ok H1 v j n=true:=by
 have hlt:v.ob<H.length:=by
  simp only[AH.ok,Bool.and_eq_true] at h
  have:=Nat.le_of_ble_eq_true h.2
  rcases Nat.lt_or_ge v.ob H.length with h1|h1
  ·exact h1
  ·simp[AH.fl,Jgr h1,MO.flat] at this;omega
 have e:=he _ hlt
 unfold AH.ok at h ⊢
 unfold AH.fl at h ⊢
 rw[e]
 cases v with
 |slc i s lo k=>
  simp only[AH.isRow,MV.ob] at h e ⊢
  rw[e]
  exact h
 |_=>exact h
theorem Jes (h1:∀κ,(γ κ).oneCell'=true) {y':V1} {ls:List Leaf} (h:QG (.v y')=some ls) (hok:y'.ok):(y'.den γ).cells.toList=Jq γ ls:=by
 cases y' with
 |one x=>
  simp only[QG,Option.some.injEq] at h
  subst h
  rw[JP,WB hok.2]
  simp only[V1.den]
  rw[Va (QC h1 hok.2)]
  rfl
 |agg m=>
  simp only[QG,Option.some.injEq] at h
  subst h
  rfl
theorem Jfm {d:TD} {g:Bool} {n:Nat} (h:JhD (some d)=some (g,n)):d.isA=g∧d.sz=n:=by
 cases d<;>(simp only [JhD,Option.some.injEq,Prod.mk.injEq] at h;obtain⟨rfl,rfl⟩:=h;exact⟨rfl,rfl⟩)
theorem JjA (hT:TOk P T) (I:Inv B N w0 γ σ a w) {κ:Nat} {ns:List Nat} {rw':Bool} {bs:List Nat} {H:AH} (hk:σ (.h κ)=some (.e (.arena rw' bs H))) (hf:∀κ∈ns,NoKey κ σ) {t:TypeId} {x y:Operand} {eff:Eff}
  (h:arS T σ κ ns rw' bs H (.store t x y)=some eff) (hn:eff.need):
  ∃w',eff.val=none∧(Instr.storeAt t (a.eval x) (a.eval y)).run P w= .ok () w'∧∃γ',Inv B N w0 γ' (Wl σ eff.wr) a w':=by
 simp only[arS] at h
 split at h
 ·rename_i κ' p ls g n hp hls hg
  split at h
  ·rename_i vs H1 wr y' hti hy
   cases hc:(Nat.beq vs.length n&&(bif Jnn y' then g else !g)) with
   |false=>rw[hc] at h;cases h
   | true=>
    rw[hc] at h
    simp only[cond_true,Option.some.injEq] at h
    subst h
    simp only[Bool.and_eq_true] at hc
    have hvn:=Nat.eq_of_beq_eq_true hc.1
    obtain⟨q1,q2⟩:=VU.1 hn
    obtain⟨q1,q3⟩:=WY.1 q1
    have q3:1≤n:=q3
    obtain⟨s1,names,rfl,t2,t3,t4,t5,t6,t7,t8,t9,t10⟩:=JbO I hk hti
    cases hx:Jg σ x with
    |none=>simp[hx] at hp
    | some u=>
     simp only[hx,Option.bind_some] at hp
     simp only[hy,Option.bind_some] at hls
     obtain⟨d1,d2⟩:=Jhv I hk hp q2
     have a1:=(I.ent _ _ hk).1
     obtain⟨b,o,ty,A,M,Z,c1,c2,c3,c4,c5,c6,c7⟩:=JkH t2 (Jm9 t10 q1 q3) q3 hvn t5
     rw[MV.den_pre t3 (by rw[a1.len];exact d2)] at c1
     have hy1:=I.eval hy
     have hcells:(y'.den γ).cells.toList=vs.map (MV.den s1):=(Jes I.cell1 hls hy1.2).trans t4
     cases hd:T t with
     |none=>rw[hd] at hg;cases hg
     | some d=>
      rw[hd] at hg
      obtain⟨g1,g2⟩:=Jfm hg
      have hst:=XV (P:=P) (w:=w) (t:=t) (off:=o) (v:=y'.den γ) c2 c3 (by rw[c4,←g2];exact Jbi (hT t d hd) w)
       (by rw[←Array.length_toList,hcells,List.length_map,c4,hvn]) (by rw[hcells];intro x hx;obtain⟨v,_,rfl⟩:=List.mem_map.1 hx;exact Jcz _ _)
      rw[hcells] at hst
      have hrun:(Instr.storeAt t (a.eval x) (a.eval y)).run P w= .ok () (w.setRow b (A++(vs.map (MV.den s1)++Z)).toArray):=by
       rw[(I.eval hx).1,d1,c1,hy1.1]
       simp only[Instr.storeAt,Instr.sureAddr,Sem.run_bind,Sem.run_pure,Result.andThen_ok]
       exact hst
      have hlen2:(AH.wr H1 p.1 p.2.1 vs).length=H1.length:=by simp[AH.wr]
      have hfk:=hf κ' (by simp)
      obtain⟨γ',_,_,I'⟩:=I.arMove (names:=names) (names.map (·.1)) hk hfk c6 t3
       (fun k hk'=>⟨hk',by obtain⟨q,hq,rfl⟩:=List.mem_map.1 hk';exact(t7 q hq).1⟩) (fun q hq _=>(t7 q hq).2.1)
       (fun q hq=>⟨.inr (List.mem_map.2 ⟨q,hq,rfl⟩),by rw[hlen2];exact(t7 q hq).2.2.1⟩) t8
       (fun hm=>by
        obtain⟨q,hq,hqe⟩:=List.mem_map.1 hm
        obtain⟨e,he,_⟩:=(t7 q hq).1
        rw[hqe,hfk.1] at he
        cases he)
       (fun hm=>by
        obtain⟨q,hq,hqe⟩:=List.mem_map.1 hm
        exact(t7 q hq).2.2.2 hqe)
       ⟨rfl,rfl,rfl,by simp,fun k _ hne=>setRow_other w b k _ (fun e=>hne (e▸t6 b c5))⟩ (fun b hb=>t6 b (c7 b hb))
      exact⟨_,rfl,hrun,γ',I'⟩
  ·cases h
 ·cases h
theorem Jme (I:Inv B N w0 γ σ a w) {κ:Nat} {ns:List Nat} {rw':Bool} {bs:List Nat} {H:AH} (hk:σ (.h κ)=some (.e (.arena rw' bs H))) (hf:∀κ∈ns,NoKey κ σ) (hnd:ns.Nodup) {t:TypeId} {x:Operand} {eff:Eff}
  (h:arS T σ κ ns rw' bs H (.box t x)=some eff):
  ∃l,(a.eval x)= .agg l∧Post B N w0 σ a eff (.pointer (some ⟨w.heap.size,0,none⟩)) (w.alloc (.cells l t)):=by
 simp only[arS] at h
 split at h
 ·rename_i κ' κv ls hx
  split at h
  ·rename_i vs H1 wr hti
   simp only[Option.some.injEq] at h
   subst h
   obtain⟨s1,names,rfl,t2,t3,t4,t5,t6,t7,t8,t9,t10⟩:=JbO I hk hti
   refine⟨(Jq γ ls).toArray,(I.eval hx).1,?_⟩
   have hfoot:∀b,Ve s1 H1 b→b<w.heap.size:=fun b hb=>t2.lt hb
   have hnew:∀s,SkPre s1 s→(MO.cells t vs).at (w.alloc (.cells (Jq γ ls).toArray t)) s (.pointer (some ⟨w.heap.size,0,none⟩)):=fun s hs=>by
    refine⟨w.heap.size,rfl,?_⟩
    rw[heap_alloc_new,t4,Qd hs (by rw[t2.len];exact t5)]
   have hpre:=JbC (Qg s1) (.pointer (some ⟨w.heap.size,0,none⟩))
   rw[←t2.skv] at hpre
   obtain⟨p1,p2,p3⟩:=t2.push (w':=w.alloc (.cells (Jq γ ls).toArray t)) (v:= .pointer (some ⟨w.heap.size,0,none⟩)) (o:= .cells t vs) (fun b hb=>heap_alloc_old w _ b (hfoot b hb))
    (hnew _ hpre) (Nat.le_trans (Yr t5) (by omega)) (fun b hb hb'=>by
     simp only[QS,Option.some.injEq] at hb
     have:=hfoot b hb'
     omega)
   have hfk:=hf κ' (by simp)
   have hfv:=hf κv (by simp)
   have hvk:κv≠κ':=fun e=>by
    subst e
    simp at hnd
   have hnm:∀k,NoKey k σ→k∉names.map (·.1):=fun k hk' hm=>by
    obtain⟨q,hq,hqe⟩:=List.mem_map.1 hm
    obtain⟨e,he,_⟩:=(t7 q hq).1
    rw[hqe,hk'.1] at he
    cases he
   have hv:YG (skV (Qg s1++[.pointer (some ⟨w.heap.size,0,none⟩)])) H1.length= .pointer (some ⟨w.heap.size,0,none⟩):=by rw[←t2.len,YS]
   obtain⟨γ',g1,g2,I'⟩:=I.arMove (names:=(κv,.ptr H1.length 0)::names) (names.map (·.1)) hk hfk p1 (t3.trans p2)
    (fun k hk'=>⟨by simp only[List.map_cons,List.mem_cons];exact .inr hk',by obtain⟨q,hq,rfl⟩:=List.mem_map.1 hk';exact(t7 q hq).1⟩)
    (fun q hq ho=>by
     rcases List.mem_cons.1 hq with rfl|hq
     ·exact absurd ho (hnm κv hfv)
     ·rw[(t7 q hq).2.1];exact(MV.den_pre p2 (by rw[t2.len];exact(t7 q hq).2.2.1)).symm)
    (fun q hq=>by
     rcases List.mem_cons.1 hq with rfl|hq
     ·exact⟨.inl hfv,by simp[MV.bd]⟩
     ·exact⟨.inr (List.mem_map.2 ⟨q,hq,rfl⟩),by have:=(t7 q hq).2.2.1;simp;omega⟩)
    (by simp only[List.map_cons,List.nodup_cons];exact⟨hnm κv hfv,t8⟩)
    (fun hm=>by
     simp only[List.map_cons,List.mem_cons] at hm
     rcases hm with hm|hm
     ·exact hvk hm.symm
     ·exact hnm κ' hfk hm)
    (fun hm=>by
     obtain⟨q,hq,hqe⟩:=List.mem_map.1 hm
     exact(t7 q hq).2.2.2 hqe)
    ⟨rfl,rfl,rfl,by simp,fun k hk' _=>heap_alloc_old w _ k hk'⟩ (fun b hb=>by
     rcases p3 b hb with h1|⟨_,h1⟩
     ·exact t6 b h1
     ·simp only[QS,Option.some.injEq] at h1
      exact .inl (by omega))
   refine⟨γ',?_,⟨trivial,trivial⟩,I'⟩
   show _=γ' κv
   rw[g2 (κv,.ptr H1.length 0) (by simp)]
   simp only[MV.den,hv,JM,Jn]
  ·cases h
 ·cases h
end Go.Gw

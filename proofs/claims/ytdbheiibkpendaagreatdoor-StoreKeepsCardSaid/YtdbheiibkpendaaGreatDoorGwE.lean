/- Memory that leads to memory: each operation, the third part. -/
import Derived.Test.YtdbheiibkpendaaGreatDoorGwD
namespace Go.Gw
open Go.RowKit Go.MapKept
variable {P:Program} {T:TypeId→Option TD} {B:Nat→Prop} {N:Nat} {w0:W0} {γ:Nat→Value} {σ:Stt} {a:Act} {w:World}
theorem Jjy (hT:TOk P T) (I:Inv B N w0 γ σ a w) {κ:Nat} {ns:List Nat} {rw':Bool} {bs:List Nat} {H:AH} (hk:σ (.h κ)=some (.e (.arena rw' bs H))) {t:TypeId} {x i:Operand} {eff:Eff}
  (h:arS T σ κ ns rw' bs H (.indexAddr t x i)=some eff) (hn:eff.need):∃v,(Instr.indexAt t (a.eval x) (a.eval i)).run P w= .ok v w∧Post B N w0 σ a eff v w:=by
 simp only[arS] at h
 have a1:=(I.ent _ _ hk).1
 split at h
 ·rename_i n e sz z κ' kj j hd hx hi
  cases ha:Xp σ κ bs κ' with
  |none=>simp[ha] at h
  | some v=>
   simp only[ha,Option.bind_some,Vp,Option.some.injEq] at h
   subst h
   obtain⟨⟨h0,h1⟩,q1,q2⟩:(0≤j∧j<n)∧v.isP=true∧AH.ok H v 0 1=true:=hn
   obtain⟨b,o,q3⟩:=Yi a1 q2 (Nat.le_refl 1)
   have q4:=QI (j:=j.toNat*sz) q3 (JbK a1 q2 (Nat.le_refl 1))
   rw[QK q1] at q3
   have e0:=(JT I hk ha).1
   have e1:a.eval x= .pointer (some ⟨b,o,none⟩):=by rw[(I.eval hx).1];show γ κ'=_;rw[e0,q3]
   have e2:a.eval i= .int kj j:=(I.eval hi).1
   obtain⟨t1,t2,t3,t4⟩:=hT t _ hd
   refine⟨.pointer (some ⟨b,o+j.toNat*sz,none⟩),?_,γ,?_,⟨h0,trivial⟩,I⟩
   ·rw[e1,e2]
    simp[Instr.indexAt,asIntOf,run_underlying t1,Instr.sureAddr,h0,h1,Vz t2,Jn]
   ·show _=JM (γ κ') (j.toNat*sz+0)
    rw[e0]
    simpa using q4.symm
 ·rename_i n e sz z κ' sz0 off kj j hd hx hi
  cases ha:Xp σ κ bs κ' with
  |none=>simp[ha] at h
  | some v=>
   simp only[ha,Option.bind_some,Vp,Option.some.injEq] at h
   subst h
   obtain⟨⟨h0,h1⟩,q2⟩:(0≤j∧j<n)∧AH.ok H v off 1=true:=hn
   obtain⟨b,o,q3⟩:=Yi a1 q2 (Nat.le_refl 1)
   have q4:=QI (j:=j.toNat*sz) q3 (JbK a1 q2 (Nat.le_refl 1))
   have e0:=(JT I hk ha).1
   have e1:a.eval x= .pointer (some ⟨b,o,none⟩):=by
    rw[(I.eval hx).1]
    show JM (γ κ') ((Int.ofNat 0).toNat*sz0+off)=_
    rw[e0]
    simpa using q3
   have e2:a.eval i= .int kj j:=(I.eval hi).1
   obtain⟨t1,t2,t3,t4⟩:=hT t _ hd
   refine⟨.pointer (some ⟨b,o+j.toNat*sz,none⟩),?_,γ,?_,⟨h0,trivial⟩,I⟩
   ·rw[e1,e2]
    simp[Instr.indexAt,asIntOf,run_underlying t1,Instr.sureAddr,h0,h1,Vz t2,Jn]
   ·show _=JM (γ κ') (j.toNat*sz+off)
    rw[e0,Nat.add_comm (j.toNat*sz) off]
    exact q4.symm
 ·rename_i d κ' kj j _ hd hx hi
  cases he:Yp (some d) with
  |none=>simp[he] at h
  | some es=>
   obtain⟨e,sz⟩:=es
   simp only[he,Option.bind_some] at h
   cases ha:Xp σ κ bs κ' with
   |none=>simp[ha] at h
   | some v=>
    simp only[ha,Option.bind_some,Vp,Option.some.injEq] at h
    subst h
    obtain⟨⟨h0,h1⟩,q2⟩:(0≤j∧j<v.len)∧AH.isRow H sz v=true:=hn
    obtain⟨t1,inf,z,i1,i2,i3,i4,i5,i6⟩:=Xz (hT t _ hd) he
    obtain⟨e0,e0'⟩:=JT I hk ha
    obtain⟨ad,cap,q3,_,q4⟩:=Yq a1 q2 i6 e0'
    have hpos:0<v.len:=by omega
    obtain⟨a0,rfl⟩:=Option.isSome_iff_exists.1 (q4 hpos)
    have e1:a.eval x= .slice (some a0) v.len cap:=by rw[(I.eval hx).1];show γ κ'=_;rw[e0,q3]
    have e2:a.eval i= .int kj j:=(I.eval hi).1
    refine⟨.pointer (some (a0.add (j.toNat*sz))),?_,γ,?_,⟨h0,trivial⟩,I⟩
    ·rw[e1,e2]
     simp[Instr.indexAt,asIntOf,run_underlying t1,h0,h1,Vz (P:=P) (t:=e) (n:=sz) (by simp[i1,i2])]
    ·show _=JM (γ κ') (j.toNat*sz+0)
     rw[e0,q3]
     rfl
 ·cases h
theorem JmD (hT:TOk P T) (I:Inv B N w0 γ σ a w) {κ:Nat} {ns:List Nat} {rw':Bool} {bs:List Nat} {H:AH} (hk:σ (.h κ)=some (.e (.arena rw' bs H))) {args:Array Operand} {ts:Array TypeId} {ty:TypeId} {eff:Eff}
  (h:arS T σ κ ns rw' bs H (.call ⟨.builtin .len,args,ts⟩)=some eff) (hn:eff.need):∃v,(Builtin.len_ ts ty (args.map a.eval)).run P w= .ok v w∧Post B N w0 σ a eff v w:=by
 simp only[arS] at h
 have a1:=(I.ent _ _ hk).1
 split at h
 ·rename_i es κ' he hx
  obtain⟨e,sz⟩:=es
  cases ha:Xp σ κ bs κ' with
  |none=>simp[ha] at h
  | some v=>
   simp only[ha,Option.bind_some,Vp,Option.some.injEq] at h
   subst h
   have q2:AH.isRow H sz v=true:=hn
   cases ht0:ts[0]? with
   |none=>simp[ht0,Yp] at he
   | some t=>
    simp only[ht0,Option.bind_some] at he
    cases hd:T t with
    |none=>rw[hd] at he;cases he
    | some d=>
     rw[hd] at he
     obtain⟨t1,inf,z,i1,i2,i3,i4,i5,i6⟩:=Xz (hT t _ hd) he
     cases ha0:args[0]? with
     |none=>simp[ha0] at hx
     |some x=>
      simp only[ha0,Option.bind_some] at hx
      obtain⟨e0,e0'⟩:=JT I hk ha
      obtain⟨ad,cap,q3,_⟩:=Yq a1 q2 i6 e0'
      have e1:a.eval x= .slice ad v.len cap:=by rw[(I.eval hx).1];show γ κ'=_;rw[e0,q3]
      refine⟨.int .i64 v.len,?_,γ,rfl,⟨trivial,trivial⟩,I⟩
      simp[Builtin.len_,ht0,ha0,run_underlying t1,goInt,e1]
 ·cases h
theorem JfQ {s:Value} {H:AH} {v:MV} (h:Ar w s H) (hm:AH.isMap H v=true):∃b es clock,v.den s= .map (some b)∧YG s v.ob= .map (some b)∧w.heap[b]? =some (.map es clock)∧(AH.at H v.ob).live=true∧
  AH.at H v.ob= .map (AH.at H v.ob).ents∧es.toList.map (fun e=>(e.key,e.val))=(AH.at H v.ob).ents.map (fun p=>(Value.int .i64 p.1,p.2.den s))∧(∀e∈es.toList,e.born<clock)∧es.toList.Pairwise (fun x y=>x.born≠y.born):=by
 cases v with
 | map i=>
  simp only[AH.isMap] at hm
  split at hm
  ·rename_i l hl
   have hlt:i<H.length:=WN (by rw[hl];rfl)
   have:=h.obj i hlt
   rw[hl] at this
   obtain⟨b,es,clock,h1,h2,h3,h4,h5⟩:=this
   refine⟨b,es,clock,by simp only[MV.den,h1],h1,h2,by simp only[MV.ob,hl];rfl,by simp only[MV.ob,hl,MO.ents],by simp only[MV.ob,hl,MO.ents];exact h3,h4,h5⟩
  ·cases hm
 |_=>cases hm
theorem YE {s:Value}:∀{es:List MapEntry} {l:List (Int×MV)} {n:Int} (i:Nat),es.map (fun e=>(e.key,e.val))=l.map (fun p=>(Value.int .i64 p.1,p.2.den s))→
  (Instr.findNow (.int .i64) (.int .i64 n) es i=some none∧QW l n= .nilp∧(∀p∈l,p.1≠n))∨
  ∃j e,Instr.findNow (.int .i64) (.int .i64 n) es i=some (some (i+j,e.val))∧es[j]? =some e∧e.key= .int .i64 n∧e.val=(QW l n).den s∧(∃p∈l,p.2=QW l n)∧
   (∀x,Jha l n x=l.set j (n,x))∧Jgq l n=l.eraseIdx j
 |[],[],n,i,_=> .inl ⟨rfl,rfl,fun p hp=>by cases hp⟩
 |[],_::_,_,_,h=>by cases h
 |_::_,[],_,_,h=>by cases h
 | e ::es,(k,v)::l,n,i,h=>by
  simp only[List.map_cons,List.cons.injEq,Prod.mk.injEq] at h
  obtain⟨⟨h1,h2⟩,h3⟩:=h
  by_cases hk:k=n
  ·subst hk
   refine .inr ⟨0,e,?_,rfl,h1,?_,⟨(k,v),by simp,by simp[QW]⟩,fun x=>by simp[Jha],by simp[Jgq]⟩
   ·simp[Instr.findNow,h1,Instr.sameNow]
   ·simp[QW,h2]
  ·have hb:(n==k)=false:=by simp;exact Ne.symm hk
   rcases YE (i+1) h3 (n:=n) with⟨f1,f2,f3⟩|⟨j,e',f1,f2,f3,f4,⟨p,f5,f6⟩,f7,f8⟩
   ·refine .inl ⟨?_,by simp[QW,hk,f2],fun p hp=> ?_⟩
    ·simp[Instr.findNow,h1,Instr.sameNow,hb,f1]
    ·rcases List.mem_cons.1 hp with rfl|hp
     ·exact hk
     ·exact f3 p hp
   ·refine .inr ⟨j+1,e',?_,by simpa using f2,f3,by simp[QW,hk,f4],⟨p,by simp[f5],by simp[QW,hk,f6]⟩,fun x=>by simp[Jha,hk,f7],by simp[Jgq,hk,f8]⟩
    simp[Instr.findNow,h1,Instr.sameNow,hb,f1];omega
theorem Jie (hT:TOk P T) (I:Inv B N w0 γ σ a w) {κ:Nat} {ns:List Nat} {rw':Bool} {bs:List Nat} {H:AH} (hk:σ (.h κ)=some (.e (.arena rw' bs H))) (hf:∀κ∈ns,NoKey κ σ) {t:TypeId} {x k:Operand} {c:Bool} {eff:Eff}
  (h:arS T σ κ ns rw' bs H (.lookup t x k c)=some eff) (hn:eff.need):∃v,(Instr.lookup t (a.eval x) (a.eval k) c).run P w= .ok v w∧Post B N w0 σ a eff v w:=by
 cases c with
 |true=>simp[arS] at h
 | false=>
  simp only[arS] at h
  have a1:=(I.ent _ _ hk).1
  split at h
  ·rename_i κv κ' n hd hx hk'
   cases ha:Xp σ κ bs κ' with
   |none=>simp[ha] at h
   | some v=>
    simp only[ha,Option.bind_some,Option.some.injEq] at h
    subst h
    have q2:AH.isMap H v=true:=hn
    obtain⟨b,es,clock,m1,m2,m3,m4,m5,m6,_⟩:=JfQ a1 q2
    obtain⟨kt,et,e',t1,t2,t3,t4,t5⟩:=hT t _ hd
    have e1:a.eval x= .map (some b):=by rw[(I.eval hx).1];show γ κ'=_;rw[(JT I hk ha).1,m1]
    have e2:a.eval k= .int .i64 n:=(I.eval hk').1
    have hz:(zeroValue et).run P w= .ok (.pointer none) w:=(VO t4 w).2
    have run:∀u,(u=(AH.look H v n).den (γ κ))→∀r,Instr.findNow (.int .i64) (.int .i64 n) es.toList 0=some r→(match r with|some (_,u')=>u'=u|none=>u= .pointer none)→
      (Instr.lookup t (a.eval x) (a.eval k) false).run P w= .ok u w:=by
     intro u _ r hr hm
     rw[e1,e2]
     cases r with
     |none=>
      simp only at hm
      subst hm
      simp[Instr.lookup,run_underlying t1,MapKept.run_getObj_map m3,run_checkKey t2 (show IsKey (.int .i64) (.int .i64 n) from rfl),run_findKey t2 hr,hz]
     |some y=>
      obtain⟨yi,yv⟩:=y
      simp only at hm
      subst hm
      simp[Instr.lookup,run_underlying t1,MapKept.run_getObj_map m3,run_checkKey t2 (show IsKey (.int .i64) (.int .i64 n) from rfl),run_findKey t2 hr]
    have bd:(AH.look H v n).bd≤H.length:=by
     have:=a1.bd v.ob
     rw[m5] at this
     unfold AH.look
     rcases YE (s:=γ κ) 0 m6 (n:=n) with⟨_,f2,_⟩|⟨j,e,_,_,_,_,⟨p,f5,f6⟩,_⟩
     ·rw[f2];exact Nat.zero_le _
     ·rw[←f6];exact JaS this _ (List.mem_map.2 ⟨p,f5,rfl⟩)
    have post:Post B N w0 σ a ⟨some (.v (.one (.slc κv))),[(κv,.apt κ (AH.look H v n))],[AH.isMap H v=true]⟩ ((AH.look H v n).den (γ κ)) w:=
     ⟨_,by simp[SV.den,V1.den,Leaf.cells],⟨trivial,trivial⟩,Inv.aptNew I hk (hf _ (by simp)) bd⟩
    rcases YE (s:=γ κ) 0 m6 (n:=n) with⟨f1,f2,_⟩|⟨j,e,f1,_,_,f4,_⟩
    ·exact⟨_,run _ rfl _ f1 (by unfold AH.look;rw[f2];rfl),post⟩
    ·exact⟨_,run _ rfl _ f1 f4,post⟩
  ·cases h
theorem Jl9 (hT:TOk P T) (I:Inv B N w0 γ σ a w) {κ:Nat} {ns:List Nat} {rw':Bool} {bs:List Nat} {H:AH} (hk:σ (.h κ)=some (.e (.arena rw' bs H))) {op:BinOp} {t t':TypeId} {x y:Operand} {eff:Eff}
  (h:arS T σ κ ns rw' bs H (.binOp op t x y t')=some eff) (hn:eff.need):∃e ad b,P.underlying t=some (.pointer e)∧a.eval x= .pointer ad∧a.eval y= .pointer none∧(op= .eql∨op= .neq)∧(b=true↔ad=none)∧
   Post B N w0 σ a eff (.bool (match op with| .eql=>b|_=> !b)) w:=by
 simp only[arS] at h
 have a1:=(I.ent _ _ hk).1
 split at h
 ·rename_i κ' hd hx hy
  cases ha:Xp σ κ bs κ' with
  |none=>simp[ha] at h
  | some v=>
   simp only[ha,Option.bind_some] at h
   obtain⟨e,t1,_⟩:=hT t _ hd
   have e2:a.eval y= .pointer none:=(I.eval hy).1
   have e1:a.eval x=v.den (γ κ):=by rw[(I.eval hx).1];exact(JT I hk ha).1
   have pt:(v.isN=true∨(v.isP=true∧AH.ok H v 0 1=true))→∃ad,v.den (γ κ)= .pointer ad∧(v.isN=true↔ad=none):=fun hh=>by
    rcases hh with h1|⟨h1,h2⟩
    ·cases v<;>first|(cases h1;done)|exact⟨none,rfl,by simp[MV.isN]⟩
    ·obtain⟨b,o,q3⟩:=Yi a1 h2 (Nat.le_refl 1)
     rw[QK h1] at q3
     refine⟨_,q3,?_⟩
     cases v<;>first|(cases h1;done)|simp [MV.isN]
   cases op with
   |eql=>
    simp only[Vp,Option.some.injEq] at h
    subst h
    obtain⟨ad,q1,q2⟩:=pt hn
    exact⟨e,ad,v.isN,t1,e1.trans q1,e2,.inl rfl,q2,γ,rfl,⟨trivial,trivial⟩,I⟩
   |neq=>
    simp only[Vp,Option.some.injEq] at h
    subst h
    obtain⟨ad,q1,q2⟩:=pt hn
    exact⟨e,ad,v.isN,t1,e1.trans q1,e2,.inr rfl,q2,γ,rfl,⟨trivial,trivial⟩,I⟩
   |_=>cases h
 ·cases h
end Go.Gw

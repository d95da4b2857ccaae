/- Memory that leads to memory: each operation, the fourth part. -/
import Derived.Test.YtdbheiibkpendaaGreatDoorGwE
namespace Go.Gw
open Go.RowKit Go.MapKept
variable {P:Program} {T:TypeId→Option TD} {B:Nat→Prop} {N:Nat} {w0:W0} {γ:Nat→Value} {σ:Stt} {a:Act} {w:World}
theorem Jf1 (I:Inv B N w0 γ σ a w) {o:Option Operand} {s:Option SV} {d m:Int} (h1:Jbm σ o=some s) (h2:WD s d=some m):Bd (o.map a.eval) d m:=by
 unfold Jbm at h1
 cases o with
 |none=>
  simp only[Option.some.injEq] at h1
  subst h1
  simp only[WD,Option.some.injEq] at h2
  exact .inl ⟨rfl,h2.symm⟩
 | some x=>
  simp only[Option.map_eq_some_iff] at h1
  obtain⟨v,hv,rfl⟩:=h1
  unfold WD at h2
  split at h2
  ·cases ‹some v=none›
  ·rename_i k n heq
   simp only[Option.some.injEq] at heq h2
   subst heq;subst h2
   exact .inr ⟨k,by simp only[Option.map_some];rw[(I.eval hv).1];rfl⟩
  ·cases h2
theorem JmB (hT:TOk P T) (I:Inv B N w0 γ σ a w) {κ:Nat} {ns:List Nat} {rw':Bool} {bs:List Nat} {H:AH} (hk:σ (.h κ)=some (.e (.arena rw' bs H))) (hf:∀κ∈ns,NoKey κ σ) {t:TypeId} {x:Operand} {lo hi:Option Operand} {eff:Eff}
  (h:arS T σ κ ns rw' bs H (.slice t x lo hi none)=some eff) (hn:eff.need):∃v,(Instr.sliceAt t (a.eval x) (lo.map a.eval) (hi.map a.eval) none).run P w= .ok v w∧Post B N w0 σ a eff v w:=by
 simp only[arS] at h
 have a1:=(I.ent _ _ hk).1
 split at h
 ·rename_i es κv κ' l hh he hx hlo hhi
  obtain⟨e,sz⟩:=es
  cases ha:Xp σ κ bs κ' with
  |none=>simp[ha] at h
  | some v=>
   simp only[ha,Option.bind_some] at h
   split at h
   ·rename_i m n hb1 hb2
    simp only[Option.some.injEq] at h
    subst h
    obtain⟨⟨c1,c2,c3⟩,q2,q3⟩:(0≤m∧m≤n∧n≤v.len)∧AH.isRow H sz v=true∧v.lo=0:=hn
    cases hd:T t with
    |none=>rw[hd] at he;cases he
    | some d=>
     rw[hd] at he
     obtain⟨t1,inf,z,i1,i2,i3,i4,i5,i6⟩:=Xz (hT t _ hd) he
     obtain⟨e0,e0'⟩:=JT I hk ha
     have hs:∀w,(sizeOf e).run P w= .ok sz w:=fun w=>Vz (P:=P) (t:=e) (n:=sz) (by simp[i1,i2]) w
     have e1:a.eval x=v.den (γ κ):=by rw[(I.eval hx).1];exact e0
     have bd:(v.sub m.toNat n.toNat).bd≤H.length:=by cases v<;>first|exact e0'|(cases q2;done)
     have post:Post B N w0 σ a ⟨some (.v (.one (.slc κv))),[(κv,.apt κ (v.sub m.toNat n.toNat))],[0≤m∧m≤n∧n≤v.len,AH.isRow H sz v=true,v.lo=0]⟩ ((v.sub m.toNat n.toNat).den (γ κ)) w:=
      ⟨_,by simp[SV.den,V1.den,Leaf.cells],⟨trivial,trivial⟩,Inv.aptNew I hk (hf _ (by simp)) bd⟩
     refine⟨_,?_,post⟩
     rw[e1]
     have b1:=Jf1 I hlo hb1
     have b2:=Jf1 I hhi hb2
     cases v with
     |nils=>
      simp only[MV.len] at c3 b2
      have hm:m=0:=by omega
      have hn0:n=0:=by omega
      subst hm;subst hn0
      have:=VT (P:=P) (ad:=none) (len:=0) (cap:=0) t1 hs b1 b2 (Int.le_refl 0) (Int.le_refl 0) (Int.le_refl 0) w
      simpa[MV.den,MV.sub] using this
     | slc i s' lo' k=>
      obtain⟨rfl,e',l',hl,hle⟩:=Yc q2
      simp only[MV.lo] at q3
      subst q3
      simp only[MV.len] at c3 b2
      simp only[MV.bd] at e0'
      have hob:=a1.obj i (by omega)
      rw[hl] at hob
      obtain⟨mm,r1,r0,⟨r2,r3⟩|⟨b,off,cap,c,r2,r3,r4,r5,r6,r7,r8⟩⟩:=hob
      ·subst r3
       have hk0:k*s'=0:=by omega
       have hk0:k=0:=by
        rcases Nat.mul_eq_zero.1 hk0 with h|h
        ·exact h
        ·omega
       subst hk0
       have hm:m=0:=by omega
       have hn0:n=0:=by omega
       subst hm;subst hn0
       have:=VT (P:=P) (ad:=none) (len:=0) (cap:=0) t1 hs b1 b2 (Int.le_refl 0) (Int.le_refl 0) (Int.le_refl 0) w
       simpa[MV.den,MV.sub,r2,JcD] using this
      ·have hk1:k≤mm:=by
        have:k*s'≤mm*s':=by omega
        exact Nat.le_of_mul_le_mul_right this i6
       have:=VT (P:=P) (ad:=some ⟨b,off,none⟩) (len:=k) (cap:=cap) t1 hs b1 b2 c1 c2 (by omega) w
       simp only[MV.den,MV.sub,r2,JcD,Nat.zero_mul,Nat.zero_add]
       have z:(if cap=0 then(⟨b,off,none⟩:Addr) else(⟨b,off,none⟩:Addr).add 0)=⟨b,off,none⟩:=by split<;>simp[Addr.add]
       rw[z,Nat.sub_zero,this]
       congr 2
       split<;>rfl
     |_=>cases q2
   ·cases h
 ·cases h
theorem JjP (I:Inv B N w0 γ σ a w) {κ:Nat} {ns:List Nat} {rw':Bool} {bs:List Nat} {H:AH} (hk:σ (.h κ)=some (.e (.arena rw' bs H))) (hf:∀κ∈ns,NoKey κ σ) (hnd:ns.Nodup) {t:TypeId} {r:Option Operand} {eff:Eff}
  (h:arS T σ κ ns rw' bs H (.makeMap t r)=some eff):r=none∧Post B N w0 σ a eff (.map (some w.heap.size)) (w.alloc (.map #[] 0)):=by
 cases r with
 |some _=>simp[arS] at h
 | none=>
  simp only[arS] at h
  split at h
  ·rename_i κ' κv hd
   simp only[Option.some.injEq] at h
   subst h
   refine⟨rfl,?_⟩
   have a1:=(I.ent _ _ hk).1
   have hlt:∀b,Ve (γ κ) H b→b<w.heap.size:=fun b hb=>a1.lt hb
   obtain⟨p1,p2,p3⟩:=a1.push (w':=w.alloc (.map #[] 0)) (v:= .map (some w.heap.size)) (o:= .map []) (fun b hb=>heap_alloc_old w _ b (hlt b hb))
    ⟨w.heap.size, #[],0,rfl,heap_alloc_new w _,rfl,by simp,by simp⟩ (Nat.zero_le _) (fun b hb hb'=>by
     simp only[QS,Option.some.injEq] at hb
     have:=hlt b hb'
     omega)
   have hvk:κ'≠κv:=fun e=>by subst e;simp at hnd
   obtain⟨γ',g2,I'⟩:=I.arTurn [(κv,.map H.length)] hk (hf κ' (by simp)) p1 p2 (fun p hp=>by
     simp only[List.mem_singleton] at hp
     subst hp
     exact⟨hf κv (by simp),by simp[MV.bd]⟩) (by simp) (by simp;exact hvk)
    ⟨rfl,rfl,rfl,by simp,fun k hk' _=>heap_alloc_old w _ k hk'⟩ (fun b hb=>by
     rcases p3 b hb with h1|⟨_,h1⟩
     ·exact .inr h1
     ·simp only[QS,Option.some.injEq] at h1
      exact .inl (by omega))
   refine⟨γ',?_,⟨trivial,trivial⟩,I'⟩
   show _=γ' κv
   rw[g2 (κv,.map H.length) (by simp)]
   have:YG (skV (Qg (γ κ)++[.map (some w.heap.size)])) H.length= .map (some w.heap.size):=by rw[←a1.len,YS]
   simp only[MV.den,this]
  ·cases h
theorem Jfw {s:Value} {H:AH} (h:Ar w s H) {i:Nat} {l:List (Int×MV)} (hl:AH.at H i= .map l):∀p∈l,p.2.bd≤H.length:=fun p hp=>by
 have:=h.bd i
 rw[hl] at this
 exact JaS this _ (List.mem_map.2 ⟨p,hp,rfl⟩)
theorem Jhh {l:List (Int×MV)} {n:Nat} (h:∀p∈l,p.2.bd≤n):(MO.map l).bd≤n:=
 Jbj fun x hx=>by obtain⟨v,hv,rfl⟩:=List.mem_map.1 hx;exact h v hv
theorem JfN {l:List (Int×MV)} {n:Int} (h:∀p∈l,p.1≠n) (x:MV):Jha l n x=l++[(n,x)]:=by
 induction l with
 |nil=>rfl
 |cons p r ih=>
  obtain⟨k,v⟩:=p
  have:k≠n:=h (k,v) (by simp)
  simp only[Jha,if_neg this,List.cons_append]
  rw[ih fun p hp=>h p (by simp[hp])]
theorem JfO {l:List (Int×MV)} {n:Int} (h:∀p∈l,p.1≠n):Jgq l n=l:=by
 induction l with
 |nil=>rfl
 |cons p r ih=>
  obtain⟨k,v⟩:=p
  have:k≠n:=h (k,v) (by simp)
  simp only[Jgq,if_neg this]
  rw[ih fun p hp=>h p (by simp[hp])]
theorem Jlt {α:Type} {l:List α} {i:Nat} {x y:α} (h:y∈l.set i x):y∈l∨y=x:=by
 rcases List.mem_or_eq_of_mem_set h with h|h
 ·exact .inl h
 ·exact .inr h
theorem JhQ (hT:TOk P T) (I:Inv B N w0 γ σ a w) {κ:Nat} {ns:List Nat} {rw':Bool} {bs:List Nat} {H:AH} (hk:σ (.h κ)=some (.e (.arena rw' bs H))) (hf:∀κ∈ns,NoKey κ σ) {t:TypeId} {x k y:Operand} {eff:Eff}
  (h:arS T σ κ ns rw' bs H (.mapUpdate t x k y)=some eff) (hn:eff.need):∃w',eff.val=none∧(Instr.mapUpdate t (a.eval x) (a.eval k) (a.eval y)).run P w= .ok () w'∧∃γ',Inv B N w0 γ' (Wl σ eff.wr) a w':=by
 simp only[arS] at h
 split at h
 ·rename_i κ' κ1 n hd hx hk'
  split at h
  ·rename_i v κ2 ha hy
   cases ha2:Xp σ κ bs κ2 with
   |none=>simp[ha2] at h
   | some u=>
    simp only[ha2,Option.bind_some,Option.some.injEq] at h
    subst h
    have q2:AH.isMap H v=true:=hn
    have a1:=(I.ent _ _ hk).1
    obtain⟨b,es,clock,m1,m2,m3,m4,m5,m6,m7,m8⟩:=JfQ a1 q2
    obtain⟨kt,et,e',t1,t2,t3,t4,t5⟩:=hT t _ hd
    obtain⟨u1,u2⟩:=JT I hk ha2
    have e1:a.eval x= .map (some b):=by rw[(I.eval hx).1];show γ κ1=_;rw[(JT I hk ha).1,m1]
    have e2:a.eval k= .int .i64 n:=(I.eval hk').1
    have e3:a.eval y=u.den (γ κ):=by rw[(I.eval hy).1];exact u1
    have key:IsKey (.int .i64) (.int .i64 n):=rfl
    have fin:∀es' clock',(es'.toList.map (fun e=>(e.key,e.val))=(Jha (AH.at H v.ob).ents n u).map (fun p=>(Value.int .i64 p.1,p.2.den (γ κ))))→(∀e∈es'.toList,e.born<clock')→es'.toList.Pairwise (fun x y=>x.born≠y.born)→
      (Instr.mapUpdate t (a.eval x) (a.eval k) (a.eval y)).run P w= .ok () {w with heap:=w.heap.setIfInBounds b (.map es' clock')}→
      ∃w',(none:Option SV)=none∧(Instr.mapUpdate t (a.eval x) (a.eval k) (a.eval y)).run P w= .ok () w'∧∃γ',Inv B N w0 γ' (Wl σ [(κ',.arena true (κ::bs) (AH.mset H v n u)),(κ,.dead)]) a w':=by
     intro es' clock' c1 c2 c3 hr
     obtain⟨h1,h2⟩:=heap_set (o':= .map es' clock') m3
     obtain⟨p1,p2⟩:=a1.set (w':={w with heap:=w.heap.setIfInBounds b (.map es' clock')}) (o:= .map (Jha (AH.at H v.ob).ents n u)) m4 (fun b' _ hne=>h2 b' (fun e=>hne (by rw[m2,e];rfl)))
      ⟨b,es',clock',m2,h1,c1,c2,c3⟩ (Jhh fun p hp=>by
       rcases YE (s:=γ κ) 0 m6 (n:=n) with⟨_,_,f3⟩|⟨j,e,_,_,_,_,_,f7,_⟩
       ·rw[JfN f3] at hp
        rcases List.mem_append.1 hp with hp|hp
        ·exact Jfw a1 m5 p hp
        ·simp only[List.mem_singleton] at hp
         subst hp
         exact u2
       ·rw[f7] at hp
        rcases Jlt hp with hp|rfl
        ·exact Jfw a1 m5 p hp
        ·exact u2)
     have hfoot:Ve (γ κ) H b:=⟨_,m4,by rw[m2];rfl⟩
     obtain⟨γ',_,I'⟩:=I.arTurn [] hk (hf κ' (by simp)) p1 (SkPre.refl _) (by simp) (by simp) (by simp)
      ⟨rfl,rfl,rfl,by simp,fun k _ hne=>h2 k (fun e=>hne (.inr (e▸hfoot)))⟩ (fun b hb=> .inr (p2 b hb))
     exact⟨_,rfl,hr,γ',I'⟩
    have m9:=m6
    rcases YE (s:=γ κ) 0 m6 (n:=n) with⟨f1,_,f3⟩|⟨j,e,f1,f2,f3,f4,_,f7,_⟩
    ·refine fin (es.push {key:= .int .i64 n,val:=u.den (γ κ),born:=clock}) (clock+1) ?_ ?_ ?_ ?_
     ·rw[JfN f3]
      simp only[Array.toList_push,List.map_append,m6,List.map_cons,List.map_nil]
     ·intro e he
      simp only[Array.toList_push,List.mem_append,List.mem_singleton] at he
      rcases he with he|rfl
      ·have:=m7 e he;omega
      ·exact Nat.lt_succ_self _
     ·simp only[Array.toList_push]
      refine List.pairwise_append.2 ⟨m8,by simp,fun e he e' he'=> ?_⟩
      simp only[List.mem_singleton] at he'
      subst he'
      have:=m7 e he
      simp only
      omega
     ·rw[e1,e2,e3]
      simp[Instr.mapUpdate,run_underlying t1,MapKept.run_getObj_map m3,run_checkKey t2 key,run_findKey t2 f1,run_setObj_map _ m3]
    ·have hj:es[j]? =some e:=by simpa using f2
     refine fin (es.modify j fun e=>{e with key:= .int .i64 n,val:=u.den (γ κ)}) clock ?_ ?_ ?_ ?_
     ·rw[f7]
      simp only[Array.toList_modify,List.map_set]
      rw[←m9]
      apply List.ext_getElem?
      intro i
      simp only[List.getElem?_map,List.getElem?_modify,List.getElem?_set,Array.getElem?_toList]
      by_cases hij:j=i
      ·subst hij
       simp[(Array.getElem?_eq_some_iff.1 hj).1]
      ·simp[hij]
     ·intro e0 he0
      have:e0.born∈(es.modify j fun e=>{e with key:= .int .i64 n,val:=u.den (γ κ)}).toList.map (·.born):=List.mem_map.2 ⟨e0,he0,rfl⟩
      have hb:(es.modify j fun e=>{e with key:= .int .i64 n,val:=u.den (γ κ)}).toList.map (·.born)=es.toList.map (·.born):=by
       apply List.ext_getElem?
       intro i
       simp only[List.getElem?_map,Array.getElem?_toList,Array.getElem?_modify]
       by_cases hij:j=i
       ·subst hij;simp[hj]
       ·simp[hij]
      rw[hb] at this
      obtain⟨e',he',hee⟩:=List.mem_map.1 this
      rw[←hee];exact m7 e' he'
     ·have hb:(es.modify j fun e=>{e with key:= .int .i64 n,val:=u.den (γ κ)}).toList.map (·.born)=es.toList.map (·.born):=by
       apply List.ext_getElem?
       intro i
       simp only[List.getElem?_map,Array.getElem?_toList,Array.getElem?_modify]
       by_cases hij:j=i
       ·subst hij;simp[hj]
       ·simp[hij]
      have:(es.toList.map (·.born)).Pairwise (·≠·):=List.pairwise_map.2 m8
      rw[←hb] at this
      exact List.pairwise_map.1 this
     ·rw[e1,e2,e3]
      simp[Instr.mapUpdate,run_underlying t1,MapKept.run_getObj_map m3,run_checkKey t2 key,run_findKey t2 f1,hj,f3,run_keyThatStays key,run_setObj_map _ m3]
  ·cases h
 ·cases h
theorem Jcf {α β:Type} (f:α→β):∀(l:List α) (j:Nat),(l.eraseIdx j).map f=(l.map f).eraseIdx j
 |[],_=>rfl
 |_::_,0=>rfl
 |x::r,j+1=>by simp[Jcf f r j]
theorem Jhj (hT:TOk P T) (I:Inv B N w0 γ σ a w) {κ:Nat} {ns:List Nat} {rw':Bool} {bs:List Nat} {H:AH} (hk:σ (.h κ)=some (.e (.arena rw' bs H))) (hf:∀κ∈ns,NoKey κ σ) {args:Array Operand} {ts:Array TypeId} {ty:TypeId} {eff:Eff}
  (h:arS T σ κ ns rw' bs H (.call ⟨.builtin .delete,args,ts⟩)=some eff) (hn:eff.need):∃v w',(Builtin.delete_ ts ty (args.map a.eval)).run P w= .ok v w'∧Post B N w0 σ a eff v w':=by
 simp only[arS] at h
 split at h
 ·rename_i κ' x k hd ha0
  split at h
  ·rename_i κ1 n hx hk'
   cases ha:Xp σ κ bs κ1 with
   |none=>simp[ha] at h
   | some v=>
    simp only[ha,Option.bind_some,Option.some.injEq] at h
    subst h
    have q2:AH.isMap H v=true:=hn
    have a1:=(I.ent _ _ hk).1
    obtain⟨b,es,clock,m1,m2,m3,m4,m5,m6,m7,m8⟩:=JfQ a1 q2
    cases ht0:ts[0]? with
    |none=>simp[ht0] at hd
    |some t=>
    simp only[ht0,Option.bind_some] at hd
    have ea:args= #[x,k]:=by rw[←Array.toArray_toList (xs:=args),ha0]
    subst ea
    obtain⟨kt,et,e',t1,t2,t3,t4,t5⟩:=hT t _ hd
    have e1:a.eval x= .map (some b):=by rw[(I.eval hx).1];show γ κ1=_;rw[(JT I hk ha).1,m1]
    have e2:a.eval k= .int .i64 n:=(I.eval hk').1
    have key:IsKey (.int .i64) (.int .i64 n):=rfl
    have fin:∀es',(es'.toList.map (fun e=>(e.key,e.val))=(Jgq (AH.at H v.ob).ents n).map (fun p=>(Value.int .i64 p.1,p.2.den (γ κ))))→es'.toList.Sublist es.toList→(∀p∈Jgq (AH.at H v.ob).ents n,p∈(AH.at H v.ob).ents)→
      (Builtin.delete_ ts ty (#[x,k].map a.eval)).run P w= .ok (.tuple #[]) {w with heap:=w.heap.setIfInBounds b (.map es' clock)}→
      ∃v' w',(Builtin.delete_ ts ty (#[x,k].map a.eval)).run P w= .ok v' w'∧Post B N w0 σ a ⟨none,[(κ',.arena true (κ::bs) (AH.mdel H v n)),(κ,.dead)],[AH.isMap H v=true]⟩ v' w':=by
     intro es' c1 c2 c3 hr
     obtain⟨h1,h2⟩:=heap_set (o':= .map es' clock) m3
     obtain⟨p1,p2⟩:=a1.set (w':={w with heap:=w.heap.setIfInBounds b (.map es' clock)}) (o:= .map (Jgq (AH.at H v.ob).ents n)) m4 (fun b' _ hne=>h2 b' (fun e=>hne (by rw[m2,e];rfl)))
      ⟨b,es',clock,m2,h1,c1,fun e he=>m7 e (c2.subset he),m8.sublist c2⟩ (Jhh fun p hp=>Jfw a1 m5 p (c3 p hp))
     have hfoot:Ve (γ κ) H b:=⟨_,m4,by rw[m2];rfl⟩
     obtain⟨γ',_,I'⟩:=I.arTurn [] hk (hf κ' (by simp)) p1 (SkPre.refl _) (by simp) (by simp) (by simp)
      ⟨rfl,rfl,rfl,by simp,fun k _ hne=>h2 k (fun e=>hne (.inr (e▸hfoot)))⟩ (fun b hb=> .inr (p2 b hb))
     exact⟨_,_,hr,γ',rfl,by simp[SV.ok],I'⟩
    rcases YE (s:=γ κ) 0 m6 (n:=n) with⟨f1,_,f3⟩|⟨j,e,f1,f2,f3,f4,_,_,f8⟩
    ·refine fin es (by rw[JfO f3];exact m6) (List.Sublist.refl _) (by rw[JfO f3];exact fun p hp=>hp) ?_
     simp[Builtin.delete_,ht0,e1,e2,run_underlying t1,MapKept.run_getObj_map m3,run_checkKey t2 key,run_findKey t2 f1,run_setObj_map _ m3]
    ·have hjl:j<es.size:=by
      have:=(List.getElem?_eq_some_iff.1 f2).1
      simpa using this
     have el:(es.eraseIdxIfInBounds j).toList=es.toList.eraseIdx j:=by simp[Array.eraseIdxIfInBounds,hjl]
     refine fin (es.eraseIdxIfInBounds j) ?_ (by rw[el];exact List.eraseIdx_sublist _ _) (by rw[f8];exact fun p hp=>(List.eraseIdx_sublist _ _).subset hp) ?_
     ·rw[el,f8,Jcf,m6,Jcf]
     ·simp[Builtin.delete_,ht0,e1,e2,run_underlying t1,MapKept.run_getObj_map m3,run_checkKey t2 key,run_findKey t2 f1,run_setObj_map _ m3]
  ·cases h
 ·cases h
def YAt (w:World) (y:Value) (m:Nat) (news:List Value):Prop:=
 (y= .slice none 0 0∧m=0)∨∃ad c,y= .slice (some ad) m c∧∀(j:Nat) (u:Value),news[j]? =some u→w.cell? (ad.add j)=some u
theorem QE {d:TD} {t ty e:TypeId} {sz:Nat} (hT:d.ok P t) (hes:Yp (some d)=some (e,sz)) {v y:Value} {n m:Nat} {xs news:List Value} (ho:w.ownsRow 0 e sz v n xs) (hy:YAt w y m news) (hnl:news.length=m*sz)
  (hn1:∀u∈news,u.oneCell'=true) (hlen:n+m≤YJ):
  ∃v' w',(Builtin.append_ #[t,t] ty #[v,y]).run P w= .ok v' w'∧v'.oneCell'=true∧w'.ownsRow 0 e sz v' (n+m) (xs++news)∧w.grownBy w' v.ownBlock∧∀b,Jw v'=some b→Jw v=some b∨w.heap.size≤b:=by
 obtain⟨t1,i,z,hi,hisz,hz,hzs,hby,hp⟩:=Xz hT hes
 have hmx:n+m≤1099511627776:=hlen
 have one:∀{v:Value} {n:Nat} {xs:List Value} {w:World},w.ownsRow 0 e sz v n xs→v.oneCell'=true:=fun h=>by
  rcases h.2 with⟨rfl,_⟩|⟨g,cap,cur,rfl,_⟩<;>rfl
 have obk:∀{v:Value} {n:Nat} {xs:List Value} {w:World},w.ownsRow 0 e sz v n xs→v.ownBlock=Jw v:=fun h=>by
  rcases h.2 with⟨rfl,_⟩|⟨g,cap,cur,rfl,_⟩<;>rfl
 rcases hy with⟨rfl,h0⟩|⟨ad,cap2,rfl,g5⟩
 ·subst h0
  rw[Nat.zero_mul] at hnl
  obtain rfl:=List.length_eq_zero_iff.1 hnl
  rw[List.append_nil]
  exact⟨v,w,run_append_owned_none w 0 t ty e i sz t1 hi v _ _ ho,one ho,ho,⟨rfl,rfl,rfl,Nat.le_refl _,fun _ _ _=>rfl⟩,fun b hb=> .inl hb⟩
 ·have h63:n+m≤maxLen:=by simp only[maxLen];omega
  have hbytes:(n+m)*i.bytes≤140737488355328:=by
   have:=Nat.mul_le_mul hmx hby
   omega
  obtain⟨v',w',k1,k2,k3,k4⟩:=run_append_own (P:=P) w 0 t ty e i z sz i.bytes t1 hi hz hisz rfl hzs hp v _ _ ho ad m cap2 news hnl g5 hn1 h63 hbytes (Nat.zero_le _)
  refine⟨v',w',k1,one k2,k2,k3,fun b hb=> ?_⟩
  rcases ho.2 with⟨hv,h0⟩|⟨g,cap,cur,hv,_,hg,hnc,hcm,hcs,htake⟩
  ·subst hv
   have ho':w.ownsRow w.heap.size e sz (.slice none 0 0) n xs:=⟨ho.1,.inl ⟨rfl,h0⟩⟩
   obtain⟨v2,w2,s1,s2,_,_⟩:=run_append_own (P:=P) w w.heap.size t ty e i z sz i.bytes t1 hi hz hisz rfl hzs hp _ _ _ ho' ad m cap2 news hnl g5 hn1 h63 hbytes (Nat.le_refl _)
   rw[k1] at s1
   cases s1
   right
   exact(World.ownsRow.lt s2 b (by rw[obk k2];exact hb)).1
  ·subst hv
   by_cases hroom:n+m≤cap
   ·obtain⟨w2,s1,_⟩:=run_append_fits (P:=P) w 0 t ty e i sz t1 hi hisz g n cap _ ho ad m cap2 news hnl g5 hn1 hroom
    rw[k1] at s1
    cases s1
    exact .inl hb
   ·have holds:∀j u,xs[j]? =some u→w.cell? ((⟨g,0,none⟩:Addr).add j)=some u:=ho.cells (g:=g) rfl
    have hr:=run_append_grow (P:=P) w t ty e i z t1 hi hz ⟨g,0,none⟩ n cap _ (by rw[hisz];exact ho.1) holds ad m cap2 news (by rw[hisz];exact hnl) g5 (by omega) (by simp only[maxLen] at h63;omega) (growslice_fits (by omega) hbytes)
    rw[k1] at hr
    cases hr
    right
    simp[Jw] at hb
    omega
theorem Jfa {s v:Value} {e:TypeId} {sz:Nat} {l:List MV} (h:(MO.row e sz l).at w s v):1≤sz∧∃n,l.length=n*sz∧w.ownsRow 0 e sz v n (l.map (MV.den s)):=by
 obtain⟨n,h1,h0,⟨h2,h3⟩|⟨b,off,cap,c,h2,h3,h4,h5,h6,h7,h8⟩⟩:=h
 ·exact⟨h0,n,h1,by simpa using h1,.inl ⟨h2,h3⟩⟩
 ·subst h8
  exact⟨h0,n,h1,by simpa using h1,.inr ⟨b,cap,c,h2,Nat.zero_le _,h3,h4,h5,by omega,by simpa using h7⟩⟩
theorem JdG {s v:Value} {e:TypeId} {sz n:Nat} {l:List MV} (hsz:1≤sz) (h:w.ownsRow 0 e sz v n (l.map (MV.den s))):(MO.row e sz l).at w s v:=by
 obtain⟨h1,⟨h2,h3⟩|⟨b,cap,c,h2,_,h3,h4,h5,h6,h7⟩⟩:=h
 ·exact⟨n,by simpa using h1,hsz,.inl ⟨h2,h3⟩⟩
 ·exact⟨n,by simpa using h1,hsz,.inr ⟨b,0,cap,c,h2,h3,h4,h5,by omega,by simpa using h7,rfl⟩⟩
theorem JlX {w:World} {v:Value} {k:IntKind} {l:List Int} (h:RdI w v k l):YAt w v l.length (l.map (.int k)):=by
 rcases h.two with⟨rfl,rfl⟩|⟨ad,cap,rfl,h2⟩
 ·exact .inl ⟨rfl,rfl⟩
 ·refine .inr ⟨ad,cap,rfl,fun j u hu=> ?_⟩
  simp only[List.getElem?_map,Option.map_eq_some_iff] at hu
  obtain⟨z,hz1,rfl⟩:=hu
  have hj:=(List.getElem?_eq_some_iff.1 hz1).1
  rw[h2 j hj]
  simp[List.getD,hz1]
theorem JkZ {w:World} {v:Value} {l:List Bool} (h:RdB w v l):YAt w v l.length (l.map .bool):=by
 rcases h with⟨⟨o,rfl⟩,rfl⟩|⟨ad,cap,rfl,_,_,_,_,h⟩
 ·cases o with
  |none=>exact .inl ⟨rfl,rfl⟩
  |some ad=>exact .inr ⟨ad,0,rfl,fun j u hu=>by simp at hu⟩
 ·refine .inr ⟨ad,cap,rfl,fun j u hu=> ?_⟩
  simp only[List.getElem?_map,Option.map_eq_some_iff] at hu
  obtain⟨z,hz1,rfl⟩:=hu
  have hj:=(List.getElem?_eq_some_iff.1 hz1).1
  rw[h j hj]
  simp[List.getD,hz1]
theorem Jl1 {w:World} {v:Value} {e:TypeId} {sz n:Nat} {xs:List Value} (h:w.ownsRow 0 e sz v n xs):YAt w v n xs:=by
 rcases h.2 with⟨rfl,h0⟩|⟨g,cap,cur,rfl,_⟩
 ·exact .inl ⟨rfl,h0⟩
 ·exact .inr ⟨_,cap,rfl,h.cells (g:=g) rfl⟩
theorem Jgm (γ:Nat→Value) (s:Value) (m:Nat):∀{ls:List Leaf} {vs:List MV},mvI ls=some vs→Jq γ ls=vs.map (MV.den s)∧(∀v∈vs,v.bd≤m)∧vs.length=ls.length
 |[],vs,h=>by simp only[mvI,Option.some.injEq] at h;subst h;exact⟨rfl,(fun v hv=>by cases hv),rfl⟩
 | x::r,vs,h=>by
  cases x<;>first
   |(simp [mvI] at h;done)
   | (simp only[mvI,Option.map_eq_some_iff] at h
      obtain⟨l,h1,rfl⟩:=h
      obtain⟨e1,e2,e3⟩:=Jgm γ s m h1
      refine⟨by rw[JP,e1];rfl,fun v hv=> ?_,by simp[e3]⟩
      rcases List.mem_cons.1 hv with rfl|hv
      ·exact Nat.zero_le _
      ·exact e2 v hv)
theorem Jh6 (I:Inv B N w0 γ σ a w) {κ:Nat} {rw':Bool} {bs:List Nat} {H:AH} (hk:σ (.h κ)=some (.e (.arena rw' bs H))) {sz:Nat} (hsz:1≤sz) {u:SV} {r:List MV×Nat×List Prop} (h:Jlz σ κ bs H sz u=some r) (hn:Wn r.2.2):
  YAt w (u.den γ) r.2.1 (r.1.map (MV.den (γ κ)))∧r.1.length=r.2.1*sz∧∀y∈r.1,y.bd≤H.length:=by
 have a1:=(I.ent _ _ hk).1
 have ints:∀(k:IntKind) (l:List Int),∀y∈l.map (MV.int k),y.bd≤H.length:=fun k l y hy=>by
  obtain⟨z,_,rfl⟩:=List.mem_map.1 hy;exact Nat.zero_le _
 have bools:∀(l:List Bool),∀y∈l.map MV.bool,y.bd≤H.length:=fun l y hy=>by
  obtain⟨z,_,rfl⟩:=List.mem_map.1 hy;exact Nat.zero_le _
 unfold Jlz at h
 split at h
 ·simp only[Option.some.injEq] at h
  subst h
  exact⟨.inl ⟨rfl,rfl⟩,by simp,fun y hy=>by cases hy⟩
 ·rename_i κ'
  have isI:∀(k:IntKind) (l:List Int),RdI w (γ κ') k l→(bif Nat.beq sz 1 then some (l.map (MV.int k),l.length,([]:List Prop)) else none)=some r→
    YAt w (γ κ') r.2.1 (r.1.map (MV.den (γ κ)))∧r.1.length=r.2.1*sz∧∀y∈r.1,y.bd≤H.length:=fun k l hr h=>by
   cases hc:Nat.beq sz 1 with
   |false=>simp[hc] at h
   |true=>
    simp only[hc,cond_true,Option.some.injEq] at h
    subst h
    have:=Nat.eq_of_beq_eq_true hc
    subst this
    refine⟨?_,by simp,ints k l⟩
    have:=JlX hr
    rwa [show (l.map (MV.int k)).map (MV.den (γ κ))=l.map (Value.int k) by rw[List.map_map];rfl]
  split at h
  ·rename_i k l hl;exact isI k l (I.key hl).2 h
  ·rename_i k l hl;exact isI k l (I.key hl).2.1 h
  ·rename_i e k l hl;exact isI k l (Ql (I.key hl).2.1) h
  ·rename_i l hl
   cases hc:Nat.beq sz 1 with
   |false=>simp[hc] at h
   |true=>
    simp only[hc,cond_true,Option.some.injEq] at h
    subst h
    have:=Nat.eq_of_beq_eq_true hc
    subst this
    refine⟨?_,by simp,bools l⟩
    have:=JkZ (I.key hl).2
    show YAt w (γ κ') _ _
    rwa [show (l.map MV.bool).map (MV.den (γ κ))=l.map Value.bool by rw[List.map_map];rfl]
  ·rename_i l hl
   cases hc:Nat.beq sz 1 with
   |false=>simp[hc] at h
   |true=>
    simp only[hc,cond_true,Option.some.injEq] at h
    subst h
    have:=Nat.eq_of_beq_eq_true hc
    subst this
    refine⟨?_,by simp,bools l⟩
    have:=JkZ (I.key hl).2.1
    show YAt w (γ κ') _ _
    rwa [show (l.map MV.bool).map (MV.den (γ κ))=l.map Value.bool by rw[List.map_map];rfl]
  ·rename_i e l hl
   cases hc:Nat.beq sz 1 with
   |false=>simp[hc] at h
   |true=>
    simp only[hc,cond_true,Option.some.injEq] at h
    subst h
    have:=Nat.eq_of_beq_eq_true hc
    subst this
    refine⟨?_,by simp,bools l⟩
    have:=Jl1 (I.key hl).2.1
    show YAt w (γ κ') _ _
    rwa [show (l.map MV.bool).map (MV.den (γ κ))=l.map Value.bool by rw[List.map_map];rfl]
  ·rename_i e n ls hl
   split at h
   ·rename_i vs hm
    cases hc:Nat.beq ls.length (n*sz) with
    |false=>simp[hc] at h
    |true=>
     simp only[hc,cond_true,Option.some.injEq] at h
     subst h
     have hlen:=Nat.eq_of_beq_eq_true hc
     obtain⟨m1,m2,m3⟩:=Jgm γ (γ κ) H.length hm
     obtain⟨b,q1,_,_,q4,_⟩:=(I.key hl).2
     refine⟨.inr ⟨⟨b,0,none⟩,n,q1,fun j u hu=> ?_⟩,by simp only[m3];exact hlen,m2⟩
     rw[Jn,cell_of_row w b _ _ e (0,0) q4,m1]
     simpa using hu
   ·cases h
  ·rename_i κb v hl
   cases hc:(Nat.beq κb κ||bs.any (Nat.beq κb)) with
   |false=>simp[hc] at h
   | true =>
    simp only[hc,cond_true,Option.some.injEq] at h
    subst h
    have ha:Xp σ κ bs κ'=some v:=by unfold Xp;rw[hl];simp[hc]
    obtain⟨e0,e1⟩:=JT I hk ha
    have q2:AH.isRow H sz v=true:=hn
    show YAt w (γ κ') _ _∧_
    rw[e0]
    cases v with
    |nils=>exact⟨.inl ⟨rfl,rfl⟩,by simp[AH.view,MV.len],fun y hy=>by cases hy⟩
    | slc i s' lo n=>
     obtain⟨rfl,e,l,hat,hle⟩:=Yc q2
     simp only[MV.bd] at e1
     have hob:=a1.obj i (by omega)
     rw[hat] at hob
     have hfl:AH.fl H i=l:=by simp[AH.fl,hat,MO.flat]
     have hvl:(AH.view H (.slc i s' lo n)).length=n*s':=by
      simp only[AH.view,hfl,List.length_take,List.length_drop];omega
     refine⟨?_,hvl,fun y hy=> ?_⟩
     ·obtain⟨h0,m,hm1,hm2⟩:=Jfa hob
      rcases hm2.2 with⟨hv,h3⟩|⟨g,cap,cur,hv,_⟩
      ·subst h3
       have:n*s'=0:=by omega
       have:n=0:=by
        rcases Nat.mul_eq_zero.1 this with h|h
        ·exact h
        ·omega
       subst this
       exact .inl ⟨by simp[MV.den,hv,JcD],rfl⟩
      ·have hcell:=hm2.cells (g:=g) (by rw[hv];rfl)
       by_cases hn0:n=0
       ·subst hn0
        refine .inr ⟨_,cap-lo,by simp only[MV.den,hv,JcD,MV.len];rfl,fun j u hu=> ?_⟩
        have:(AH.view H (.slc i s' lo 0))=[]:=List.length_eq_zero_iff.1 (by rw[hvl];simp)
        rw[this] at hu
        simp at hu
       ·have hlc:cap≠lo:=fun e=>by
         have hcm:m≤cap:=by
          rcases hm2.2 with⟨hv',_⟩|⟨g',cap',cur',hv',_,_,hmc,_⟩
          ·rw[hv] at hv';cases hv'
          ·rw[hv] at hv';cases hv';exact hmc
         have h1:lo+n≤m:=by
          have:(lo+n)*s'≤m*s':=by rw[Nat.add_mul];omega
          exact Nat.le_of_mul_le_mul_right this hsz
         omega
        refine .inr ⟨⟨g,lo*s',none⟩,cap-lo,by simp only[MV.den,hv,JcD,MV.len,if_neg hlc,Jn,Nat.zero_add],fun j u hu=> ?_⟩
        simp only[AH.view,hfl,List.getElem?_map,List.getElem?_take,List.getElem?_drop] at hu
        split at hu
        ·have:=hcell (lo*s'+j) u (by simpa using hu)
         rw[Jn] at this ⊢
         simpa using this
        ·simp at hu
     ·have:=Jjk a1 i
      rw[hfl] at this
      simp only[AH.view,hfl] at hy
      exact this y (List.mem_of_mem_drop (List.mem_of_mem_take hy))
    |_=>cases q2
  ·cases h
 ·cases h
end Go.Gw

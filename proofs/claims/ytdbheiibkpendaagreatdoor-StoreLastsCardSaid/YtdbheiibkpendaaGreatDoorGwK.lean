/- Rows of records, read; slices of slices in memory. -/
import Derived.Test.YtdbheiibkpendaaGreatDoorGwJ
namespace Go.Gw
open Go.RowKit Go.MapKept
variable {P:Program} {T:TypeId→Option TD} {B:Nat→Prop} {N:Nat} {w0:W0} {γ:Nat→Value} {σ:Stt} {a:Act} {w:World}
theorem Jk5 {a b:IntKind} (h:Nat.beq (ikc a) (ikc b)=true):a=b:=by
 have:=Nat.eq_of_beq_eq_true h
 cases a<;>cases b<;>first|rfl|(simp [ikc] at this)
theorem Jk3 (sz:Nat) (ll:List (List DL)):∀(i j:Nat),i<ll.length→j<sz→(RowsK.gn sz ll).cells[i*sz+j]?=some (WY ll i j):=by
 simp only[RowsK.cells]
 induction ll with
 |nil=>intro i j h;simp at h
 | cons x r ih=>
  intro i j h hj
  simp only[List.flatMap_cons]
  cases i with
  |zero=>
   rw[List.getElem?_append_left (by simpa using hj)]
   simp[hj,WY]
  |succ i=>
   have:=ih i j (by simpa using h) hj
   rw[List.getElem?_append_right (by simp[Nat.add_mul];omega)]
   have e:(i+1)*sz+j- ((List.range sz).map fun j=>dlR x j).length=i*sz+j:=by simp[Nat.add_mul];omega
   rw[e,this]
   simp[WY]
theorem Jm1 (I:Inv B N w0 γ σ a w) {κ:Nat} {s:Nat} {ll:List (List DL)} (hk:σ (.h κ)=some (.e (.rows (.gn s ll)))) {i off:Nat} (hi:i<ll.length) (ho:off<s) {g:GK} (hf:∀κ∈g.keys,NoKey κ σ) (hok:JmG (WY ll i off) g=true):
  ∃a1 len cap u γ',γ κ= .slice (some a1) len cap∧a1.spot=none∧w.cell? (a1.add (i*s+off))=some u∧u.oneCell'=true∧(g.leaf (WY ll i off)).cells γ'=[u]∧(∀κ',κ'∉g.keys→γ' κ'=γ κ')∧
   Inv B N w0 γ' (VW σ (g.ents (WY ll i off))) a w:=by
 have hj:=Jk3 s ll i off hi ho
 obtain⟨h1,h2⟩:=Jce (e:= .rows (.gn s ll)) rfl (I.ent κ _ hk)
 obtain⟨a1,len,cap,u,g1,g2,g3,g4,g5,g6,g7⟩:=h1.get hj
 cases hd:WY ll i off with
 | int k n=>
  rw[hd] at hok g6
  cases g with
  |int k'=>
   obtain rfl:=Jk5 hok
   exact⟨a1,len,cap,u,γ,g1,g2,g4,g5,by simp only[DL.at] at g6;subst g6;rfl,fun _ _=>rfl,I⟩
  |_=>cases hok
 |bool b=>
  rw[hd] at hok g6
  cases g with
  |bool=>exact⟨a1,len,cap,u,γ,g1,g2,g4,g5,by simp only[DL.at] at g6;subst g6;rfl,fun _ _=>rfl,I⟩
  |_=>cases hok
 |str b=>
  rw[hd] at hok
  cases g<;>cases hok
 | bytes k l=>
  rw[hd] at hok g6
  cases g with
  |bs k' κ'=>
   obtain rfl:=Jk5 hok
   refine⟨a1,len,cap,u,fun x=>if x=κ' then u else γ x,g1,g2,g4,g5,by simp[GK.leaf,Leaf.cells],fun κ2 h=>if_neg (by simpa[GK.keys] using h),I.alias (hf κ' (by simp[GK.keys])) g5 rfl (by simpa[Ent.at,DL.at,DL.ints] using g6) fun b hb=> ?_⟩
   have hb':YI u=some b:=by simpa[Ent.foot] using hb
   exact⟨κ,_,hk,(h2 b (g7 b hb')).1,(h2 b (g7 b hb')).2⟩
  |_=>cases hok
 | bools l=>
  rw[hd] at hok g6
  cases g with
  |bb κ'=>
   refine⟨a1,len,cap,u,fun x=>if x=κ' then u else γ x,g1,g2,g4,g5,by simp[GK.leaf,Leaf.cells],fun κ2 h=>if_neg (by simpa[GK.keys] using h),I.alias (hf κ' (by simp[GK.keys])) g5 rfl (by simpa[Ent.at,DL.at,DL.boolL] using g6) fun b hb=> ?_⟩
   have hb':YI u=some b:=by simpa[Ent.foot] using hb
   exact⟨κ,_,hk,(h2 b (g7 b hb')).1,(h2 b (g7 b hb')).2⟩
  |_=>cases hok
theorem JeG (d:DL) (g:GK):(g.leaf d).keys=g.keys:=by cases g<;>rfl
theorem JeF (d:DL) (g:GK):∀p∈g.ents d,p.1∈g.keys∧p.2.keys=[]:=by cases g<;>simp[GK.ents,GK.keys,Ent.keys]
theorem Ja3 {ll:List (List DL)} {i:Nat}:∀{ks:List GK} {off:Nat},∀p∈gkE ll i off ks,p.1∈ks.flatMap GK.keys∧p.2.keys=[]
 |[],_,p,h=>by cases h
 | g::r,off,p,h=>by
  simp only[gkE,List.mem_append] at h
  rcases h with h|h
  ·have:=JeF _ g p h
   exact⟨by simp only[List.flatMap_cons,List.mem_append];exact .inl this.1,this.2⟩
  ·have:=Ja3 p h
   exact⟨by simp only[List.flatMap_cons,List.mem_append];exact .inr this.1,this.2⟩
theorem JcJ:∀(l r:List (Nat×Ent)),VW σ (l++r)=VW (VW σ r) l
 |[],r=>rfl
 |(κ,e)::l,r=>by simp only[List.cons_append,VW];rw[JcJ l r]
theorem JhQ {κ:Nat} {l:List (Nat×Ent)} (h:NoKey κ σ) (hl:∀p∈l,p.1≠κ∧p.2.keys=[]):NoKey κ (VW σ l):=by
 obtain⟨h1,h2,h3⟩:=h
 refine⟨?_,fun lc c hc hk=> ?_,h3⟩
 ·cases hu:VW σ l (.h κ) with
  |none=>rfl
  |some c=>
   rcases Vk σ l κ c hu with⟨e,he,_⟩|⟨_,h⟩
   ·exact absurd rfl (hl _ he).1
   ·rw[h1] at h;cases h
 ·cases lc with
  |s t=>rw[WO] at hc;exact h2 _ c hc hk
  | h κ2=>
   rcases Vk σ l κ2 c hc with⟨e,he,rfl⟩|⟨_,h⟩
   ·have:=(hl _ he).2
    simp only[Cont.keys] at hk
    rw[this] at hk;cases hk
   ·exact h2 _ c h hk
theorem Jh2 (I:Inv B N w0 γ σ a w) {κ:Nat} {s:Nat} {ll:List (List DL)} (hk:σ (.h κ)=some (.e (.rows (.gn s ll)))) {i:Nat} (hi:i<ll.length):
  ∀ (ks:List GK) (off:Nat),off+ks.length≤s→(∀κ∈ks.flatMap GK.keys,NoKey κ σ)→(ks.flatMap GK.keys).Nodup→Qj ll i off ks=true→
   ∃γ' us,us.length=ks.length∧(∀j u,us[j]?=some u→∃a1 len cap,γ κ= .slice (some a1) len cap∧a1.spot=none∧w.cell? (a1.add (i*s+(off+j)))=some u∧u.oneCell'=true)∧Js γ' (gkL ll i off ks)=us∧
    (∀κ',κ'∉ks.flatMap GK.keys→γ' κ'=γ κ')∧Inv B N w0 γ' (VW σ (gkE ll i off ks)) a w
 |[],off,_,_,_,_=>⟨γ,[],rfl,by simp,rfl,fun _ _=>rfl,I⟩
 | g ::r,off,ho,hf,hnd,hok=>by
  simp only[Qj,Bool.and_eq_true] at hok
  simp only[List.flatMap_cons] at hf hnd
  simp only[List.length_cons] at ho
  obtain⟨n1,n2,n3⟩:=List.nodup_append.1 hnd
  obtain⟨γ1,us,u1,u2,u3,u4,I1⟩:=Jh2 I hk hi r (off+1) (by omega) (fun κ h=>hf κ (by simp[h])) n2 hok.2
  have hkn:∀κ'∈r.flatMap GK.keys,κ'≠κ:=fun κ' h e=>by
   have:=(hf κ' (by simp[h])).1
   rw[e,hk] at this;cases this
  have hk1:VW σ (gkE ll i (off+1) r) (.h κ)=some (.e (.rows (.gn s ll))):=by
   cases hu:VW σ (gkE ll i (off+1) r) (.h κ) with
   | none=>
    exfalso
    have:∀l:List (Nat×Ent),(∀p∈l,p.1≠κ)→VW σ l (.h κ)=σ (.h κ):=by
     intro l hl
     induction l with
     |nil=>rfl
     |cons p q ih=>
      obtain⟨κ2,e2⟩:=p
      simp only[VW]
      rw[WJ _ _ (by simpa using hl (κ2,e2) (by simp)),ih fun p hp=>hl p (by simp[hp])]
    rw[this _ fun p hp=>hkn _ (Ja3 p hp).1,hk] at hu
    cases hu
   |some c=>
    rcases Vk σ _ κ c hu with⟨e,he,_⟩|⟨_,h⟩
    ·exact absurd rfl (hkn _ (Ja3 _ he).1)
    ·rw[hk] at h;exact h.symm
  have nk:∀κ'∈g.keys,NoKey κ' (VW σ (gkE ll i (off+1) r)):=fun κ' h=>JhQ (hf κ' (by simp[h])) fun p hp=>by
   refine⟨fun e=> ?_,(Ja3 p hp).2⟩
   exact n3 κ' h _ (Ja3 p hp).1 e.symm
  obtain⟨a1,len,cap,u,γ',g1,g2,g4,g5,g6,g7,I2⟩:=Jm1 I1 hk1 hi (by omega) nk hok.1
  have hκ:γ1 κ=γ κ:=u4 κ fun h=>hkn κ h rfl
  refine⟨γ',u::us,by simp[u1],fun j v hv=> ?_,?_,fun κ' h=> ?_,?_⟩
  ·cases j with
   |zero=>
    simp only[List.getElem?_cons_zero,Option.some.injEq] at hv
    subst hv
    exact⟨a1,len,cap,by rw[←hκ];exact g1,g2,g4,g5⟩
   |succ j=>
    obtain⟨a2,l2,c2,q1,q2,q3,q4⟩:=u2 j v (by simpa using hv)
    exact⟨a2,l2,c2,q1,q2,by rw[show off+(j+1)=off+1+j by omega];exact q3,q4⟩
  ·simp only[gkL]
   rw[JT,g6]
   have:Js γ' (gkL ll i (off+1) r)=Js γ1 (gkL ll i (off+1) r):=XP fun x hx κ' hκ'=>g7 κ' fun h=>by
    have:∀(ks:List GK) (o:Nat),x∈gkL ll i o ks→κ'∈ks.flatMap GK.keys:=by
     intro ks
     induction ks with
     |nil=>intro o h;cases h
     |cons g' r' ih=>
      intro o h
      simp only[gkL,List.mem_cons] at h
      simp only[List.flatMap_cons,List.mem_append]
      rcases h with rfl|h
      ·rw[JeG] at hκ';exact .inl hκ'
      ·exact .inr (ih _ h)
    exact n3 κ' h κ' (this r _ hx) rfl
   rw[this,u3]
   rfl
  ·simp only[List.flatMap_cons,List.mem_append,not_or] at h
   rw[g7 κ' h.1,u4 κ' h.2]
  ·simp only[gkE]
   rw[JcJ]
   exact I2
theorem Jc1 (d:DL) (g:GK):(g.leaf d).ok∧(g.leaf d).lone:=by cases g<;>exact⟨trivial,trivial⟩
theorem Jlb {ll:List (List DL)} {i:Nat}:∀{ks:List GK} {off:Nat},∀x∈gkL ll i off ks,x.ok
 |[],_,x,h=>by cases h
 |g::r,off,x,h=>by
  simp only[gkL,List.mem_cons] at h
  rcases h with rfl|h
  ·exact(Jc1 _ g).1
  ·exact Jlb x h
theorem Jit (hT:TOk P T) (I:Inv B N w0 γ σ a w) {ks:List GK} (hf:∀κ∈ks.flatMap GK.keys,NoKey κ σ) (hnd:(ks.flatMap GK.keys).Nodup) {o:Oper} {eff:Eff} (h:gnS T σ ks o.op=some eff) (hn:eff.need):
  RunOk P (execOp a.eval o) w (Post B N w0 σ a eff):=by
 obtain⟨dst,op,ty,pos,after,guard⟩:=o
 cases op with
 | load t x=>
  simp only[gnS] at h
  split at h
  ·rename_i κ sz i off hx
   split at h
   ·rename_i s ll hk
    cases hc:(Nat.beq s sz&&Nat.ble (off+ks.length) sz) with
    |false=>simp[hc] at h
    | true=>
     simp only[hc,cond_true] at h
     simp only[Bool.and_eq_true] at hc
     obtain rfl:=Nat.eq_of_beq_eq_true hc.1
     have hle:=Nat.le_of_ble_eq_true hc.2
     have hi0:0≤i:=(I.eval hx).2.1
     have ex:a.eval x=JR (γ κ) (i.toNat*s+off):=(I.eval hx).1
     have hk':=(I.key hk).1
     split at h
     ·rename_i ks' _ _ n o z hd
      cases hnk:Nat.beq n ks'.length with
      |false=>simp[hnk] at h
      | true=>
       simp only[hnk,cond_true,Option.some.injEq] at h
       subst h
       obtain rfl:=Nat.eq_of_beq_eq_true hnk
       obtain⟨n1,n2⟩:i<ll.length∧Qj ll i.toNat off ks'=true:=hn
       obtain⟨γ',us,u1,u2,u3,u4,I'⟩:=Jh2 I hk' (show i.toNat<ll.length by omega) ks' off hle hf hnd n2
       obtain⟨fs,t1,t2,t3,t4,t5⟩:=hT t _ hd
       have hpos:0<ll.length:=by omega
       have hrd:RdR w (γ κ) (.gn s ll):=I.ent κ _ hk'
       rcases hrd with⟨_,h0⟩|⟨ad,cap,h1,h2,h3,h4,h5,h6⟩
       ·exact absurd h0 (by simp only[RowsK.len];omega)
       ·have hl:=run_loadCells_list (P:=P) w (ad.add (i.toNat*s+off)) us fun j v hv=>by
         obtain⟨a1,len,cap1,q1,q2,q3,q4⟩:=u2 j v hv
         rw[h1] at q1
         simp only[Value.slice.injEq,Option.some.injEq] at q1
         obtain⟨rfl,_,_⟩:=q1
         rw[add_add q2,Nat.add_assoc]
         exact q3
        have hag:=Yi (hT t _ hd) w
        have hsz:=Jbv (hT t _ hd) w
        simp only[TD.isA,TD.sz] at hag hsz
        rw[u1] at hl
        refine Jn (v:= .agg us.toArray) (w':=w) ?_ ⟨γ',by show Value.agg us.toArray=Value.agg (Js γ' (gkL ll i.toNat off ks')).toArray;rw[u3],Jlb,I'⟩
        simp only[ex,h1,JR,Instr.loadAt,Instr.sureAddr,Sem.run_bind,Sem.run_pure,Result.andThen_ok,loadVar,hag,hsz,hl,if_true]
     ·cases h
     ·cases h
     ·rename_i d g hs1 hs2 hs3 hd
      simp only[Option.some.injEq] at h
      subst h
      obtain⟨n1,n2⟩:i<ll.length∧Qj ll i.toNat off [g]=true:=hn
      obtain⟨γ',us,u1,u2,u3,u4,I'⟩:=Jh2 I hk' (show i.toNat<ll.length by omega) [g] off hle hf hnd n2
      obtain⟨u,rfl⟩:∃u,us=[u]:=List.length_eq_one_iff.1 (by simpa using u1)
      obtain⟨a1,len,cap,q1,q2,q3,q4⟩:=u2 0 u rfl
      have hA:d.isA=false:=by
       cases d<;>first
        |rfl
        |(exfalso;simp_all;done)
        |(exfalso;simp_all;exact hs3 _ _ _ _ rfl rfl rfl rfl)
        |(exfalso;simp_all;exact hs2 _ _ _ rfl rfl rfl)
        |(exfalso;simp_all;exact hs1 _ _ _ rfl rfl rfl)
      have hl1:=WN (P:=P) (t:=t) (hA▸Yi (hT t _ hd) w) q3
      refine Jn (v:=u) (w':=w) ?_ ⟨γ',?_,Jc1 _ g,I'⟩
      ·simp only[ex,q1,JR,Instr.loadAt,Instr.sureAddr,Sem.run_bind,Sem.run_pure,Result.andThen_ok]
       exact hl1
      ·simp only[gkL,JT] at u3
       have:(g.leaf (WY ll i.toNat off)).cells γ'=[u]:=by simpa[Js] using u3
       show u=((g.leaf (WY ll i.toNat off)).cells γ').headD undef
       rw[this]
       rfl
     ·cases h
   ·cases h
  ·cases h
 |_=>simp[gnS] at h
theorem Jh0 (hT:TOk P T) (I:Inv B N w0 γ σ a w) {κ:Nat} {ns:List Nat} {rw':Bool} {bs:List Nat} {H:AH} (hk:σ (.h κ)=some (.e (.arena rw' bs H))) (hf:∀κ∈ns,NoKey κ σ) {o:Oper} {eff:Eff}
  (h:arW T σ κ ns bs H o.op=some eff) (hn:eff.need):RunOk P (execOp a.eval o) w (Post B N w0 σ a eff):=by
 obtain⟨dst,op,ty,pos,after,guard⟩:=o
 cases op with
 | slice t x lo hi mx=>
  cases mx with
  |some m=>simp[arW] at h
  | none =>
   simp only[arW] at h
   have a1:=(I.ent _ _ hk).1
   split at h
   ·rename_i es κv κ' l hh he hx hlo hhi
    obtain⟨e,sz⟩:=es
    cases ha:wvS σ κ bs κ' with
    |none=>simp[ha] at h
    | some v=>
     simp only[ha,Option.bind_some] at h
     split at h
     ·rename_i m n hb1 hb2
      simp only[Option.some.injEq] at h
      subst h
      obtain⟨⟨c1,c2,c3⟩,q2⟩:(0≤m∧m≤n∧n≤v.len)∧AH.isRow H sz v=true:=hn
      cases hd:T t with
      |none=>rw[hd] at he;cases he
      | some d=>
       rw[hd] at he
       obtain⟨t1,inf,z,i1,i2,i3,i4,i5,i6⟩:=XS (hT t _ hd) he
       obtain⟨e0',ad,cap,g1,g2,g3⟩:=Jgk I hk ha q2 i6
       have hs:∀w,(sizeOf e).run P w= .ok sz w:=fun w=>Vz (P:=P) (t:=e) (n:=sz) (by simp[i1,i2]) w
       have e1:a.eval x= .slice ad v.len cap:=by rw[(I.eval hx).1];exact g1
       have b1:=JgL I hlo hb1
       have b2:=JgL I hhi hb2
       have hr:=Wf (P:=P) (ad:=ad) (len:=v.len) (cap:=cap) t1 hs b1 b2 c1 c2 (by omega) w
       rw[←e1] at hr
       have bd:(v.sub m.toNat n.toNat).bd≤H.length:=by cases v<;>first|exact e0'|(cases q2;done)
       have hlen:(v.sub m.toNat n.toNat).len=n.toNat-m.toNat:=by
        cases v with
        |slc i s lo k=>rfl
        |nils=>simp only[MV.len] at c3;simp only[MV.sub,MV.len];omega
        |_=>cases q2
       generalize hres:Value.slice (if cap=m.toNat then ad else ad.map (·.add (m.toNat*sz))) (n.toNat-m.toNat) (cap-m.toNat)=res at hr
       have Jt:res.oneCell'=true:=by rw[←hres];rfl
       have hat:(Ent.wv κ (v.sub m.toNat n.toNat)).at B (fun y=>if y=κv then res else γ y) w κv:=by
        have hkv:κ≠κv:=fun e=>by have:=(hf κv (by simp)).1;rw[←e,hk] at this;cases this
        simp only[Ent.at,if_pos,if_neg hkv]
        refine⟨by rw[a1.len];exact bd,?_⟩
        rw[hlen]
        by_cases h0:n.toNat-m.toNat=0
        ·exact .inr ⟨h0,_,_,by rw[←hres,h0]⟩
        ·left
         refine⟨by omega,?_⟩
         obtain⟨g4,g5⟩:=g3 (by omega)
         cases v with
         | slc i s lo k=>
          obtain⟨rfl,e',l',hl,hle⟩:=Yo q2
          simp only[MV.bd] at e0'
          have hob:=a1.obj i (by omega)
          rw[hl] at hob
          simp only[MV.len] at c3 g1 g2
          obtain⟨mm,r1,r0,⟨r2,r3⟩|⟨b,off,cap',c,r2,r3,r4,r5,r6,r7,r8⟩⟩:=hob
          ·subst r3
           rw[Nat.zero_mul] at r1
           have:k*s=0:=by omega
           rcases Nat.mul_eq_zero.1 this with h|h<;>omega
          ·have hk1:lo+k≤mm:=by
            have:(lo+k)*s≤mm*s:=by rw[Nat.add_mul];omega
            exact Nat.le_of_mul_le_mul_right this r0
           have g6:=g4
           rw[g1] at g6
           simp only[MV.den,r2,JcS,Value.slice.injEq] at g6
           obtain⟨g7,_,g8⟩:=g6
           rw[←hres]
           simp only[MV.sub,MV.den,r2,JcS]
           rw[g7,g8,if_neg (show ¬cap'=lo by omega),if_neg (show ¬cap'-lo=m.toNat by omega),if_neg (show ¬cap'=lo+m.toNat by omega)]
           simp only[Option.map_some,Jr,Nat.add_mul,Value.slice.injEq,Option.some.injEq,Addr.mk.injEq,and_true,true_and]
           omega
         |nils=>simp only[MV.len] at c3;omega
         |_=>cases q2
       have hex:execOp a.eval ⟨dst,.slice t x lo hi none,ty,pos,after,guard⟩=(do pure (.value (←Instr.sliceAt t (a.eval x) (lo.map a.eval) (hi.map a.eval) none))):=rfl
       rw[hex]
       refine Jn hr ⟨fun y=>if y=κv then res else γ y,by simp[SV.den,V1.den,Leaf.cells],⟨trivial,trivial⟩,I.alias (hf κv (by simp)) Jt rfl hat fun b hb=>hb.elim⟩
     ·cases h
   ·cases h
 |_=>simp[arW] at h
theorem JiW (hT:TOk P T) (I:Inv B N w0 γ σ a w) {o:Oper} {eff:Eff} (h:pnS T σ o.op=some eff):RunOk P (execOp a.eval o) w (Post B N w0 σ a eff):=by
 obtain⟨dst,op,ty,pos,after,guard⟩:=o
 have hpn:∀κ',pnK σ κ'=true→∃b o,γ κ'= .pointer (some ⟨b,o,none⟩):=fun κ' hp=>by
  unfold pnK at hp
  split at hp
  ·rename_i κa v hk;exact(I.key hk).2.2.2
  ·cases hp
 cases op with
 | nilCheck x=>
  simp only[pnS] at h
  have fin:∀{v:SV} {ad:Addr},Jg σ x=some v→v.den γ= .pointer (some ad)→Jy v=some eff→RunOk P (execOp a.eval ⟨dst,.nilCheck x,ty,pos,after,guard⟩) w (Post B N w0 σ a eff):=by
   intro v ad hv hd he
   simp only[Jy,Option.some.injEq] at he
   subst he
   have e1:=I.eval hv
   have hex:execOp a.eval ⟨dst,.nilCheck x,ty,pos,after,guard⟩=pure (.value (a.eval x)):=by simp only[execOp,e1.1,hd]
   rw[hex]
   exact RunOk.pureV ⟨γ,e1.1,e1.2,I⟩
  split at h
  ·rename_i κ' hx
   cases hp:pnK σ κ' with
   |false=>simp[hp] at h
   |true=>
    simp only[hp,cond_true] at h
    obtain⟨b,o,hv⟩:=hpn κ' hp
    exact fin hx (ad:=⟨b,o,none⟩) (by show γ κ'=_;exact hv) h
  ·rename_i κ' sz i off hx
   cases hp:pnK σ κ' with
   |false=>simp[hp] at h
   |true=>
    simp only[hp,cond_true] at h
    obtain⟨b,o,hv⟩:=hpn κ' hp
    exact fin hx (ad:=⟨b,o+(i.toNat*sz+off),none⟩) (by show JR (γ κ') _=_;rw[hv];simp only[JR,Jr]) h
  ·cases h
 | fieldAddr t x f=>
  simp only[pnS] at h
  have go:∀{n:Nat} {offs:List (Nat×Nat)} {z:List Leaf} {oo os b o:Nat},T t=some (.struct n offs z)→offs[f]?=some (oo,os)→1≤os→a.eval x= .pointer (some ⟨b,o,none⟩)→
    (Instr.fieldAt t (a.eval x) f).run P w= .ok (.pointer (some ⟨b,o+oo,none⟩)) w:=fun hd hof hs e1=>by
   obtain⟨fs,t1,t2,_⟩:=hT t _ hd
   obtain⟨fl,hfl,i,hi1,hi2,hi3⟩:=JaR t2 f hof
   have hsz:i.size≠0:=by omega
   have hfl':fs[f]?=some fl:=by simpa using hfl
   rw[e1]
   simp[Instr.fieldAt,run_underlying t1,hfl',Instr.sureAddr,fieldPlace,Vz (P:=P) (t:=fl.type) (n:=i.size) (by simp[hi1]),hsz,Jr,hi2]
  split at h
  ·rename_i n offs z κ' hd hx
   cases hof:offs[f]? with
   |none=>simp[hof] at h
   | some o=>
    obtain⟨oo,os⟩:=o
    simp only[hof,Option.bind_some] at h
    cases hs:(Nat.ble 1 os&&pnK σ κ') with
    |false=>simp[hs] at h
    |true=>
     simp only[hs,cond_true,Jy,Option.some.injEq] at h
     subst h
     simp only[Bool.and_eq_true] at hs
     obtain⟨b,o,hv⟩:=hpn κ' hs.2
     have e1:a.eval x= .pointer (some ⟨b,o,none⟩):=by rw[(I.eval hx).1];exact hv
     refine Jn (go hd hof (Nat.le_of_ble_eq_true hs.1) e1) ⟨γ,?_,⟨Int.le_refl 0,trivial⟩,I⟩
     show _=JR (γ κ') ((0:Int).toNat*1+oo)
     rw[hv]
     simp only[JR,Jr]
     simp
  ·rename_i n offs z κ' sz i off hd hx
   cases hof:offs[f]? with
   |none=>simp[hof] at h
   | some o=>
    obtain⟨oo,os⟩:=o
    simp only[hof,Option.bind_some] at h
    cases hs:(Nat.ble 1 os&&pnK σ κ') with
    |false=>simp[hs] at h
    |true=>
     simp only[hs,cond_true,Jy,Option.some.injEq] at h
     subst h
     simp only[Bool.and_eq_true] at hs
     obtain⟨b,o,hv⟩:=hpn κ' hs.2
     have ex:=I.eval hx
     have e1:a.eval x= .pointer (some ⟨b,o+(i.toNat*sz+off),none⟩):=by rw[ex.1];show JR (γ κ') _=_;rw[hv];simp only[JR,Jr]
     refine Jn (go hd hof (Nat.le_of_ble_eq_true hs.1) e1) ⟨γ,?_,⟨ex.2.1,trivial⟩,I⟩
     show _=JR (γ κ') (i.toNat*sz+(off+oo))
     rw[hv]
     simp only[JR,Jr,Nat.add_assoc]
  ·cases h
 |_=>simp[pnS] at h
end Go.Gw
namespace Go.Gw
variable {T:TypeId→Option TD} {σ σ':Stt}
theorem JaO {κ:Nat} (h:Jh σ' κ=Jh σ κ):pnK σ' κ=pnK σ κ:=by unfold pnK;rw[h]
theorem Jjj {op:Op} (hs:∀x∈op.operands,Jg σ' x=Jg σ x)
  (hk:∀x∈op.operands,∀v,Jg σ x=some v→∀κ∈v.keys,Jh σ' κ=Jh σ κ):pnS T σ' op=pnS T σ op:=by
 cases op with
 |nilCheck x=>
  simp only[pnS]
  rw[hs x (by simp[Op.operands])]
  split
  ·rename_i hx;rw[JaO (hk x (by simp[Op.operands]) _ hx _ (by simp[SV.keys,V1.keys,V1.keys.lk]))]
  ·rename_i hx;rw[JaO (hk x (by simp[Op.operands]) _ hx _ (by simp[SV.keys,V1.keys,V1.keys.lk]))]
  ·rfl
 |fieldAddr t x f=>
  simp only[pnS]
  rw[hs x (by simp[Op.operands])]
  split
  ·rename_i hx;rw[JaO (hk x (by simp[Op.operands]) _ hx _ (by simp[SV.keys,V1.keys,V1.keys.lk]))]
  ·rename_i hx;rw[JaO (hk x (by simp[Op.operands]) _ hx _ (by simp[SV.keys,V1.keys,V1.keys.lk]))]
  ·rfl
 |_=>rfl
theorem Ji6 {ks:List GK} {op:Op} (hs:∀x∈op.operands,Jg σ' x=Jg σ x)
  (hk:∀x∈op.operands,∀v,Jg σ x=some v→∀κ∈v.keys,Jh σ' κ=Jh σ κ):gnS T σ' ks op=gnS T σ ks op:=by
 cases op with
 | load t x=>
  simp only[gnS]
  rw[hs x (by simp[Op.operands])]
  split
  ·rename_i κ sz i off hx
   rw[hk x (by simp[Op.operands]) _ hx κ (by simp[SV.keys,V1.keys,V1.keys.lk])]
  ·rfl
 |_=>rfl
theorem JhN {κ:Nat} {ns:List Nat} {bs:List Nat} {H:AH} {op:Op} (hs:∀x∈op.operands,Jg σ' x=Jg σ x)
  (hk:∀x∈op.operands,∀v,Jg σ x=some v→∀κ∈v.keys,Jh σ' κ=Jh σ κ):arW T σ' κ ns bs H op=arW T σ κ ns bs H op:=by
 cases op with
 | slice t x lo hi mx=>
  cases mx with
  |some m=>rfl
  | none=>
   simp only[arW]
   have ho:∀o:Option Operand,(∀y,o=some y→Jg σ' y=Jg σ y)→Jbo σ' o=Jbo σ o:=fun o h=>by
    cases o with
    |none=>rfl
    |some y=>simp only[Jbo];rw[h y rfl]
   rw[hs x (by simp[Op.operands]),ho lo fun y hy=>hs y (by simp[Op.operands,hy]),ho hi fun y hy=>hs y (by simp[Op.operands,hy])]
   split
   ·rename_i hx _ _
    rw[JeM (hk x (by simp[Op.operands]) _ hx _ (by simp[SV.keys,V1.keys,V1.keys.lk]))]
   ·rfl
 |_=>rfl
end Go.Gw

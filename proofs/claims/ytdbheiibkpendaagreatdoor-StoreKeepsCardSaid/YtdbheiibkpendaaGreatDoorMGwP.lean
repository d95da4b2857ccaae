/- Rows of a function's own whose parts are only read: append. -/
import Derived.Test.YtdbheiibkpendaaGreatDoorGwU
namespace Go.Gw
open Go.RowKit
variable {P:Program} {T:TypeId→Option TD} {B:Nat→Prop} {N:Nat} {w0:W0} {γ:Nat→Value} {σ:Stt} {a:Act} {w:World}
theorem Jea (I:Inv B N w0 γ σ a w) {t ty e:TypeId} {sz:Nat} (hT:(TD.sliceR e sz).ok P t) {κ κ2 κ':Nat} {r1 r2 r:RowsK} (hk:σ (.h κ)=some (.e (.prows e r1))) (hk2:σ (.h κ2)=some (.e (.rows r2)))
  (hf:NoKey κ' σ) (hs:r2.sz=sz) (happ:r1.app r2=some r) (hlen:r.len≤YJ) {p:List Prop}:
  ∃v w',(Builtin.append_ #[t,t] ty #[γ κ,γ κ2]).run P w= .ok v w'∧Post B N w0 σ a ⟨some (.v (.one (.slc κ'))),[(κ',.prows e r),(κ,.dead)],p⟩ v w':=by
 obtain⟨a1,a2,a3,a4⟩:=Jdw happ
 obtain⟨x1,⟨xs,x2,x3⟩,x4,x5⟩:=I.ent κ _ hk
 have y1:RdR w (γ κ2) r2:=I.ent κ2 _ hk2
 have hs1:r1.sz=sz:=by rw[←a3];exact hs
 have hne:κ≠κ2:=fun h=>by subst h;rw[hk] at hk2;cases hk2
 have apt:∀b,Jw (γ κ)=some b→¬(Ent.rows r2).foot γ w κ2 b:=I.apart κ _ κ2 _ hk hk2 hne rfl
 obtain⟨v',w',k1,k2,k3,k4,k5,k6,k7⟩:=Xm (P:=P) (t:=t) (ty:=ty) hT hs1 happ (by rw[←hs1];exact x2) x3 x1 y1 hlen x5 (fun b hb h=>apt b h (.inr hb))
 have hob:(γ κ).ownBlock=Jw (γ κ):=by
  rcases x2.2 with⟨h,_⟩|⟨g,cap,cur,h,_⟩<;>rw[h]<;>rfl
 have k6':∀b,Jw v'=some b→Yk γ w (fun x=>x=κ) b:=fun b hb=>(k6 b hb).symm.imp id fun h=>⟨κ,rfl,h⟩
 refine⟨v',w',k1,fun x=>if x=κ' then v' else γ x,by simp[SV.den,V1.den,Leaf.cells],⟨trivial,trivial⟩,?_⟩
 have hnk:κ≠κ':=fun e=>by subst e;rw[hf.1] at hk;cases hk
 refine I.news2 (fun x=>x=κ) (fun p hp=> ?_) (by intro x hx;cases hx;exact⟨⟨(κ,.dead),by simp,rfl⟩,_,hk,rfl⟩) (fun x hx=> ?_) (Yy I.cell1 k2)
  ⟨k5.os,k5.tape,k5.output,k5.size,fun b hb hn=>k5.block b hb fun e=>hn (.inr ⟨κ,rfl,by rw[←hob];exact e.symm⟩)⟩ (fun p hp=> ?_) (fun p hp q hq hpq=> ?_)
 ·simp only[List.mem_cons,List.not_mem_nil,or_false] at hp
  rcases hp with rfl|rfl
  ·exact .inl hf
  ·exact .inr rfl
 ·have:x≠κ':=fun eq=>absurd (hx (κ',Ent.prows e r) (by simp) eq.symm) (fun e'=>hnk (e'.symm.trans eq))
  simp[this]
 ·simp only [List.mem_cons,List.not_mem_nil,or_false] at hp
  rcases hp with rfl|rfl
  ·refine⟨?_,fun _ b hb=> .inl (k6' b (by simpa[Ent.reg] using hb)),fun b hb=> ?_⟩
   ·simp only[Ent.at,if_pos]
    obtain⟨xs',q1,q2⟩:=k4
    refine⟨k3,⟨xs',by rw[a2,hs1];exact q1,q2⟩,fun b hb=> ?_,fun b hb=> ?_⟩
    ·rcases k6 b hb with h|h
     ·exact x4 b h
     ·exact I.top b (Nat.le_trans I.below.size h)
    ·rcases k7 b hb with h|h
     ·intro hm
      rcases k6 b hm with h'|h'
      ·exact x5 b h h'
      ·have:=RdR.lt x1 (.inr h);omega
     ·intro hm
      rcases k6 b hm with h'|h'
      ·exact apt b h' (.inr h)
      ·have:=RdR.lt y1 (.inr h);omega
   ·simp only[Ent.foot,if_pos] at hb
    rcases hb with hb|hb
    ·exact .inl (k6' b hb)
    ·refine .inr fun κ1 e1 he hn hm hb1=> ?_
     rcases k7 b hb with h|h
     ·exact I.apart κ1 e1 κ _ he hk (fun e=>hn (κ,.dead) (by simp) e.symm) hm b hb1 (.inr h)
     ·by_cases h12:κ1=κ2
      ·subst h12
       rw[hk2] at he;cases he
       cases hm
      ·exact I.apart κ1 e1 κ2 _ he hk2 h12 hm b hb1 (.inr h)
  ·exact⟨trivial,(fun h=>by cases h),fun b hb=>hb.elim⟩
 ·simp only[List.mem_cons,List.not_mem_nil,or_false] at hp hq
  rcases hp with rfl|rfl<;>rcases hq with rfl|rfl
  ·exact absurd rfl hpq
  ·exact fun _ _ _ h=>h
  ·intro h;cases h
  ·exact absurd rfl hpq
theorem Jbs (I:Inv B N w0 γ σ a w) {t ty e:TypeId} {sz:Nat} (hT:(TD.sliceR e sz).ok P t) {κ2 κ':Nat} {r2:RowsK} (hk2:σ (.h κ2)=some (.e (.rows r2)))
  (hf:NoKey κ' σ) (hs:r2.sz=sz) (hlen:r2.len≤YJ) {p:List Prop}:
  ∃v w',(Builtin.append_ #[t,t] ty #[.slice none 0 0,γ κ2]).run P w= .ok v w'∧Post B N w0 σ a ⟨some (.v (.one (.slc κ'))),[(κ',.prows e r2)],p⟩ v w':=by
 have y1:RdR w (γ κ2) r2:=I.ent κ2 _ hk2
 obtain⟨r1,h1,h2,happ⟩:∃r1:RowsK,r1.len=0∧r1.sz=sz∧r1.app r2=some r2:=by
  cases r2 with
  |bs k ll=>exact⟨.bs k [],rfl,hs,by simp[RowsK.app,keq]⟩
  |rc ll=>exact⟨.rc [],rfl,hs,by simp[RowsK.app]⟩
  |gn s ll=>exact⟨.gn s [],rfl,hs,by simp[RowsK.app]⟩
 obtain⟨v',w',k1,k2,k3,k4,k5,k6,k7⟩:=Xm (P:=P) (t:=t) (ty:=ty) (v:= .slice none 0 0) (xs:=[]) hT h2 happ (by rw[h1];exact World.ownsRow_nil w 0 e sz) (by simp) (.inl ⟨rfl,h1⟩) y1 hlen (fun b _ h=>by simp[Jw] at h) (fun b _ h=>by simp[Jw] at h)
 have k6':∀b,Jw v'=some b→w.heap.size≤b:=fun b hb=>(k6 b hb).resolve_left (by simp[Jw])
 have k7':∀b,Inner w' v' (r2.len*r2.sz) b→Inner w (γ κ2) (r2.len*r2.sz) b:=fun b hb=>by
  rcases k7 b hb with⟨_,_,_,_,_,h,_⟩|h
  ·cases h
  ·exact h
 refine⟨v',w',k1,fun x=>if x=κ' then v' else γ x,by simp[SV.den,V1.den,Leaf.cells],⟨trivial,trivial⟩,?_⟩
 refine I.news2 (fun _=>False) (fun p hp=> ?_) (by simp) (fun x hx=> ?_) (Yy I.cell1 k2)
  ⟨k5.os,k5.tape,k5.output,k5.size,fun b hb _=>k5.block b hb (by simp[Value.ownBlock])⟩ (fun p hp=> ?_) (fun p hp q hq hpq=> ?_)
 ·simp only[List.mem_singleton] at hp;subst hp;exact .inl hf
 ·have:x≠κ':=fun eq=>hx (κ',Ent.prows e r2) (by simp) eq.symm
  simp[this]
 ·simp only[List.mem_singleton] at hp
  subst hp
  refine⟨?_,fun _ b hb=> .inl (.inl (k6' b (by simpa[Ent.reg] using hb))),fun b hb=> ?_⟩
  ·simp only[Ent.at,if_pos]
   obtain⟨xs',q1,q2⟩:=k4
   refine⟨k3,⟨xs',by rw[hs];exact q1,q2⟩,fun b hb=>I.top b (Nat.le_trans I.below.size (k6' b hb)),fun b hb=> ?_⟩
   intro hm
   have:=RdR.lt y1 (.inr (k7' b hb))
   have:=k6' b hm
   omega
  ·simp only[Ent.foot,if_pos] at hb
   rcases hb with hb|hb
   ·exact .inl (.inl (k6' b hb))
   ·refine .inr fun κ1 e1 he _ hm hb1=> ?_
    by_cases h12:κ1=κ2
    ·subst h12
     rw[hk2] at he;cases he
     cases hm
    ·exact I.apart κ1 e1 κ2 _ he hk2 h12 hm b hb1 (.inr (k7' b hb))
 ·simp only[List.mem_singleton] at hp hq
  subst hp;subst hq
  exact absurd rfl hpq
end Go.Gw
/- A part of rows that are only read. -/
namespace Go.Gw
open Go.RowKit
variable {P:Program} {T:TypeId→Option TD} {B:Nat→Prop} {N:Nat} {w0:W0} {γ:Nat→Value} {σ:Stt} {a:Act} {w:World}
theorem JlB (m:Nat):∀ll:List (Int×List Int),(RowsK.rc (ll.drop m)).cells=(RowsK.rc ll).cells.drop (2*m):=by
 induction m with
 |zero=>intro ll;rfl
 | succ m ih=>
  intro ll
  cases ll with
  |nil=>simp[RowsK.cells]
  |cons r ll=>
   have e:(RowsK.rc (r::ll)).cells=DL.int .i64 r.1:: .bytes .u8 r.2::(RowsK.rc ll).cells:=rfl
   rw[List.drop_succ_cons,ih,e,show 2*(m+1)=2*m+1+1 by omega,List.drop_succ_cons,List.drop_succ_cons]
theorem JeX {t e:TypeId} {sz:Nat} (hT:(TD.sliceR e sz).ok P t) (hs2:sz=2) (I:Inv B N w0 γ σ a w) {κ κ':Nat} {ll:List (Int×List Int)} {lo hi:Option Value} {m n:Int} (hk:σ (.h κ)=some (.e (.rows (.rc ll))))
  (hf:NoKey κ' σ) (hl:Bd lo 0 m) (hh:Bd hi ll.length n) (h0:0≤m) (h1:m≤n) (h2:n≤ll.length) {p:List Prop}:
  ∃v,(Instr.sliceAt t (γ κ) lo hi none).run P w= .ok v w∧Post B N w0 σ a ⟨some (.v (.one (.slc κ'))),[(κ',.rows (.rc ((ll.take n.toNat).drop m.toNat)))],p⟩ v w:=by
 subst hs2
 obtain⟨t1,t2,t3⟩:=hT
 have hsz:∀w,(sizeOf e).run P w= .ok 2 w:=Vz t2
 have hr0:RdR w (γ κ) (.rc ll):=I.ent κ _ hk
 have hlen:((ll.take n.toNat).drop m.toNat).length=n.toNat-m.toNat:=by rw[List.length_drop,List.length_take];omega
 have fin:∀v:Value,v.oneCell'=true→RdR w v (.rc ((ll.take n.toNat).drop m.toNat))→(∀b,Jw v=some b∨Inner w v ((n.toNat-m.toNat)*2) b→Jw (γ κ)=some b∨Inner w (γ κ) (ll.length*2) b)→
   Post B N w0 σ a ⟨some (.v (.one (.slc κ'))),[(κ',.rows (.rc ((ll.take n.toNat).drop m.toNat)))],p⟩ v w:=fun v hv h3 h4=>
  ⟨fun x=>if x=κ' then v else γ x,by simp[SV.den,V1.den,Leaf.cells],⟨trivial,trivial⟩,I.alias hf hv rfl (by simpa[Ent.at] using h3) fun b hb=>
   ⟨κ,_,hk,h4 b (by simp only[Ent.foot,if_pos,RowsK.len,RowsK.sz,hlen] at hb;exact hb),fun h=>by cases h⟩⟩
 rcases hr0 with⟨hv,h00⟩|⟨ad,cap,hv,g1,g2,g3,g4,g5⟩
 ·have:ll=[]:=List.length_eq_zero_iff.1 h00
  subst this
  have hn:n=0:=by simp at h2;omega
  have hm:m=0:=by omega
  subst hn;subst hm
  refine⟨_,by rw[hv];exact VT (P:=P) (ad:=none) (len:=0) (cap:=0) t1 hsz hl hh (Int.le_refl 0) (Int.le_refl 0) (Int.le_refl 0) w,fin _ rfl (.inl ⟨rfl,rfl⟩) fun b hb=> ?_⟩
  rcases hb with hb|⟨_,_,_,_,_,hb,_⟩
  ·simp[Jw] at hb
  ·simp at hb
 ·have hlc:(RowsK.rc ll).len=ll.length:=rfl
  rw[hlc] at g1
  have hr:=VT (P:=P) (ad:=some ad) (len:=ll.length) (cap:=cap) t1 hsz hl hh h0 h1 (by omega) w
  have rc:∀j d,(RowsK.rc ((ll.take n.toNat).drop m.toNat)).cells[j]? =some d→(RowsK.rc ll).cells[2*m.toNat+j]? =some d:=fun j d hd=>by
   rw[JlB,List.getElem?_drop] at hd
   exact Jid ll n.toNat _ d hd
  have rl:(RowsK.rc ((ll.take n.toNat).drop m.toNat)).len=n.toNat-m.toNat:=hlen
  by_cases hc:cap=m.toNat
  ·have hnm:n.toNat-m.toNat=0:=by omega
   rw[if_pos hc,hnm] at hr
   refine⟨_,by rw[hv,hlc];exact hr,fin _ rfl (.inr ⟨ad,cap-m.toNat,by rw[rl,hnm],by omega,by omega,g3,g4,fun j d hd=> ?_⟩) fun b hb=> ?_⟩
   ·have:(ll.take n.toNat).drop m.toNat=[]:=List.length_eq_zero_iff.1 (by omega)
    rw[this] at hd
    simp[RowsK.cells] at hd
   ·rcases hb with hb|⟨a',len,cap',j,u,q1,q2,q3,q4⟩
    ·left;rw[hv];exact hb
    ·omega
  ·rw[if_neg hc] at hr
   refine⟨_,by rw[hv,hlc];exact hr,fin _ rfl (.inr ⟨ad.add (m.toNat*2),cap-m.toNat,by rw[rl];rfl,by omega,by omega,by rw[XD];exact g3,?_,fun j d hd=> ?_⟩) fun b hb=> ?_⟩
   ·obtain⟨b0,o0,s0⟩:=ad
    simp only at g4;subst g4
    rw[Jn]
   ·rw[YZ g4,show m.toNat*2+j=2*m.toNat+j by omega]
    exact g5 _ d (rc j d hd)
   ·rcases hb with hb|⟨a',len,cap',j,u,q1,q2,q3,q4⟩
    ·left;rw[hv]
     simpa[Jw,XD] using hb
    ·right
     simp only[Option.map_some,Value.slice.injEq,Option.some.injEq] at q1
     obtain⟨rfl,_,_⟩:=q1
     rw[YZ g4] at q3
     exact⟨ad,_,_,m.toNat*2+j,u,hv,by omega,q3,q4⟩
end Go.Gw

/- Rows of a function's own whose parts are only read: append. -/
import Derived.Test.YtdbheiibkpendaaDoorGwU
namespace Go.Gw
open Go.RowKit
variable {P:Program} {T:TypeId→Option TD} {B:Nat→Prop} {N:Nat} {w0:W0} {γ:Nat→Value} {σ:Stt} {a:Act} {w:World}
theorem JdK (I:Inv B N w0 γ σ a w) {t ty e:TypeId} {sz:Nat} (hT:(TD.sliceR e sz).ok P t) {κ κ2 κ':Nat} {r1 r2 r:RowsK} (hk:σ (.h κ)=some (.e (.prows e r1))) (hk2:σ (.h κ2)=some (.e (.rows r2)))
  (hf:NoKey κ' σ) (hs:r2.sz=sz) (happ:r1.app r2=some r) (hlen:r.len≤Qd) {p:List Prop}:
  ∃v w',(Builtin.append_ #[t,t] ty #[γ κ,γ κ2]).run P w= .ok v w'∧Post B N w0 σ a ⟨some (.v (.one (.slc κ'))),[(κ',.prows e r),(κ,.dead)],p⟩ v w':=by
 obtain⟨a1,a2,a3,a4⟩:=Jdy happ
 obtain⟨x1,⟨xs,x2,x3⟩,x4,x5⟩:=I.ent κ _ hk
 have y1:RdR w (γ κ2) r2:=I.ent κ2 _ hk2
 have hs1:r1.sz=sz:=by rw[←a3];exact hs
 have hne:κ≠κ2:=fun h=>by subst h;rw[hk] at hk2;cases hk2
 have apt:∀b,Jx (γ κ)=some b→¬(Ent.rows r2).foot γ w κ2 b:=I.apart κ _ κ2 _ hk hk2 hne rfl
 obtain⟨v',w',k1,k2,k3,k4,k5,k6,k7⟩:=Xl (P:=P) (t:=t) (ty:=ty) hT hs1 happ (by rw[←hs1];exact x2) x3 x1 y1 hlen x5 (fun b hb h=>apt b h (.inr hb))
 have hob:(γ κ).ownBlock=Jx (γ κ):=by
  rcases x2.2 with⟨h,_⟩|⟨g,cap,cur,h,_⟩<;>rw[h]<;>rfl
 have k6':∀b,Jx v'=some b→Yl γ w (fun x=>x=κ) b:=fun b hb=>(k6 b hb).symm.imp id fun h=>⟨κ,rfl,h⟩
 refine⟨v',w',k1,fun x=>if x=κ' then v' else γ x,by simp[SV.den,V1.den,Leaf.cells],⟨trivial,trivial⟩,?_⟩
 have hnk:κ≠κ':=fun e=>by subst e;rw[hf.1] at hk;cases hk
 refine I.news2 (fun x=>x=κ) (fun p hp=> ?_) (by intro x hx;cases hx;exact⟨⟨(κ,.dead),by simp,rfl⟩,_,hk,rfl⟩) (fun x hx=> ?_) (Yt I.cell1 k2)
  ⟨k5.os,k5.tape,k5.output,k5.size,fun b hb hn=>k5.block b hb fun e=>hn (.inr ⟨κ,rfl,by rw[←hob];exact e.symm⟩)⟩ (fun p hp=> ?_) (fun p hp q hq hpq=> ?_)
 ·simp only[List.mem_cons,List.not_mem_nil,or_false] at hp
  rcases hp with rfl|rfl
  ·exact .inl hf
  ·exact .inr rfl
 ·have:x≠κ':=fun eq=>absurd (hx (κ',Ent.prows e r) (by simp) eq.symm) (fun e'=>hnk (e'.symm.trans eq))
  simp[this]
 ·simp only [List.mem_cons,List.not_mem_nil,or_false] at hp
  rcases hp with rfl|rfl
  ·refine⟨?_,fun _ b hb=> .inl (k6' b (by simpa[Ent.reg] using hb)),fun b hb=> ?_⟩
   ·simp only[Ent.at,if_pos]
    obtain⟨xs',q1,q2⟩:=k4
    refine⟨k3,⟨xs',by rw[a2,hs1];exact q1,q2⟩,fun b hb=> ?_,fun b hb=> ?_⟩
    ·rcases k6 b hb with h|h
     ·exact x4 b h
     ·exact I.top b (Nat.le_trans I.below.size h)
    ·rcases k7 b hb with h|h
     ·intro hm
      rcases k6 b hm with h'|h'
      ·exact x5 b h h'
      ·have:=RdR.lt x1 (.inr h);omega
     ·intro hm
      rcases k6 b hm with h'|h'
      ·exact apt b h' (.inr h)
      ·have:=RdR.lt y1 (.inr h);omega
   ·simp only[Ent.foot,if_pos] at hb
    rcases hb with hb|hb
    ·exact .inl (k6' b hb)
    ·refine .inr fun κ1 e1 he hn hm hb1=> ?_
     rcases k7 b hb with h|h
     ·exact I.apart κ1 e1 κ _ he hk (fun e=>hn (κ,.dead) (by simp) e.symm) hm b hb1 (.inr h)
     ·by_cases h12:κ1=κ2
      ·subst h12
       rw[hk2] at he;cases he
       cases hm
      ·exact I.apart κ1 e1 κ2 _ he hk2 h12 hm b hb1 (.inr h)
  ·exact⟨trivial,(fun h=>by cases h),fun b hb=>hb.elim⟩
 ·simp only[List.mem_cons,List.not_mem_nil,or_false] at hp hq
  rcases hp with rfl|rfl<;>rcases hq with rfl|rfl
  ·exact absurd rfl hpq
  ·exact fun _ _ _ h=>h
  ·intro h;cases h
  ·exact absurd rfl hpq
theorem Jbi (I:Inv B N w0 γ σ a w) {t ty e:TypeId} {sz:Nat} (hT:(TD.sliceR e sz).ok P t) {κ2 κ':Nat} {r2:RowsK} (hk2:σ (.h κ2)=some (.e (.rows r2)))
  (hf:NoKey κ' σ) (hs:r2.sz=sz) (hlen:r2.len≤Qd) {p:List Prop}:
  ∃v w',(Builtin.append_ #[t,t] ty #[.slice none 0 0,γ κ2]).run P w= .ok v w'∧Post B N w0 σ a ⟨some (.v (.one (.slc κ'))),[(κ',.prows e r2)],p⟩ v w':=by
 have y1:RdR w (γ κ2) r2:=I.ent κ2 _ hk2
 obtain⟨r1,h1,h2,happ⟩:∃r1:RowsK,r1.len=0∧r1.sz=sz∧r1.app r2=some r2:=by
  cases r2 with
  |bs k ll=>exact⟨.bs k [],rfl,hs,by simp[RowsK.app,keq]⟩
  |rc ll=>exact⟨.rc [],rfl,hs,by simp[RowsK.app]⟩
  |gn s ll=>exact⟨.gn s [],rfl,hs,by simp[RowsK.app]⟩
 obtain⟨v',w',k1,k2,k3,k4,k5,k6,k7⟩:=Xl (P:=P) (t:=t) (ty:=ty) (v:= .slice none 0 0) (xs:=[]) hT h2 happ (by rw[h1];exact World.ownsRow_nil w 0 e sz) (by simp) (.inl ⟨rfl,h1⟩) y1 hlen (fun b _ h=>by simp[Jx] at h) (fun b _ h=>by simp[Jx] at h)
 have k6':∀b,Jx v'=some b→w.heap.size≤b:=fun b hb=>(k6 b hb).resolve_left (by simp[Jx])
 have k7':∀b,Inner w' v' (r2.len*r2.sz) b→Inner w (γ κ2) (r2.len*r2.sz) b:=fun b hb=>by
  rcases k7 b hb with⟨_,_,_,_,_,h,_⟩|h
  ·cases h
  ·exact h
 refine⟨v',w',k1,fun x=>if x=κ' then v' else γ x,by simp[SV.den,V1.den,Leaf.cells],⟨trivial,trivial⟩,?_⟩
 refine I.news2 (fun _=>False) (fun p hp=> ?_) (by simp) (fun x hx=> ?_) (Yt I.cell1 k2)
  ⟨k5.os,k5.tape,k5.output,k5.size,fun b hb _=>k5.block b hb (by simp[Value.ownBlock])⟩ (fun p hp=> ?_) (fun p hp q hq hpq=> ?_)
 ·simp only[List.mem_singleton] at hp;subst hp;exact .inl hf
 ·have:x≠κ':=fun eq=>hx (κ',Ent.prows e r2) (by simp) eq.symm
  simp[this]
 ·simp only[List.mem_singleton] at hp
  subst hp
  refine⟨?_,fun _ b hb=> .inl (.inl (k6' b (by simpa[Ent.reg] using hb))),fun b hb=> ?_⟩
  ·simp only[Ent.at,if_pos]
   obtain⟨xs',q1,q2⟩:=k4
   refine⟨k3,⟨xs',by rw[hs];exact q1,q2⟩,fun b hb=>I.top b (Nat.le_trans I.below.size (k6' b hb)),fun b hb=> ?_⟩
   intro hm
   have:=RdR.lt y1 (.inr (k7' b hb))
   have:=k6' b hm
   omega
  ·simp only[Ent.foot,if_pos] at hb
   rcases hb with hb|hb
   ·exact .inl (.inl (k6' b hb))
   ·refine .inr fun κ1 e1 he _ hm hb1=> ?_
    by_cases h12:κ1=κ2
    ·subst h12
     rw[hk2] at he;cases he
     cases hm
    ·exact I.apart κ1 e1 κ2 _ he hk2 h12 hm b hb1 (.inr (k7' b hb))
 ·simp only[List.mem_singleton] at hp hq
  subst hp;subst hq
  exact absurd rfl hpq
end Go.Gw

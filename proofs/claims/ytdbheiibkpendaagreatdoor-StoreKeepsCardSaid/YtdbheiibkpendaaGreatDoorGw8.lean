/- The walk's engine, part 8: a region whose order is drawn: if what interferes is ordered, every order comes to what the text's order comes to. -/
import Derived.Test.YtdbheiibkpendaaGreatDoorGw7
namespace Go.Gw
open Go.RowKit
def Jiy : List Oper → Nat → List Nat → List Nat      -- the operations that come ahead of each, as bits; the elder ones' lie in the list, the last one first
 |[],_,acc=>acc.reverse
 |o::r,i,acc=>Jiy r (i+1) ((orL (o.after.toList.map fun e=>bif Region.binds .any e then Nat.lor (Nat.pow 2 e.on) (acc.reverse.getD e.on 0) else 0))::acc)
def Jco:List Oper→Nat→Bool
 |[],_=>true
 |o::r,i=>(o.after.toList.all fun e=> !Region.binds .any e||Nat.blt e.on i)&&Jco r (i+1)
def JaR (a b:Rec):Bool:= !(Nat.beq (Nat.lor (Nat.land a.wt (Nat.lor b.rd b.wt)) (Nat.land b.wt a.rd)) 0)
def Ji4 (b:Rec) (anc:Nat):List Rec→Nat→Bool
 |[],_=>true
 |a::r,i=>(!JaR a b||Nat.testBit anc i)&&Ji4 b anc r (i+1)
def JjK (all:List Rec) (ancs:List Nat):List Rec→Nat→Bool
 |[],_=>true
 |b::r,j=>Ji4 b (ancs.getD j 0) (all.take j) 0&&JjK all ancs r (j+1)
def Je2 (ops:List Oper) (recs:List Rec):Bool:=Jco ops 0&&JjK recs (Jiy ops 0 []) recs 0
def JmL (P:Program) (T:TypeId→Option TD) (N:Nat) (ops:List Oper) (hs:List (Nat×Hint)) (live:List Loc) (σ:SS):Option (SS×List Prop):=
 match Jia P T N (ops.map (·.dst)) hs ops 0 σ with
 |none=>none
 | some (recs,σ')=>bif Je2 ops recs then
   match restr σ' live with
   |none=>none
   |some σ''=>some (σ'',Qo recs)
  else none
theorem testBit_or (a b i:Nat):(Nat.lor a b).testBit i=(a.testBit i||b.testBit i):=Nat.testBit_or a b i
theorem testBit_and (a b i:Nat):(Nat.land a b).testBit i=(a.testBit i&&b.testBit i):=Nat.testBit_and a b i
theorem Qc {l:List Nat} {i:Nat}:(orL l).testBit i=true↔∃a∈l,a.testBit i=true:=by
 induction l with
 |nil=>simp[orL]
 |cons a r ih=>simp only[orL,testBit_or,Bool.or_eq_true,ih,List.mem_cons,exists_eq_or_imp]
theorem Jdh (t i:Nat):(JlJ t).testBit i=true↔i=2*t:=by
 simp only[JlJ,Nat.pow_eq,Nat.testBit_two_pow]
 simp[eq_comm]
theorem JaH (t i:Nat):(JeU t).testBit i=true↔i=2*t+1:=by
 simp only[JeU,Nat.pow_eq,Nat.testBit_two_pow]
 simp[eq_comm]
def Loc.num:Loc→Nat
 | .s t=>2*t
 | .h κ=>2*κ+1
def JeV (m:Nat) (l:Loc):Bool:=m.testBit l.num
theorem Jaz {a b:Rec} {l:Loc} (h:(JeV a.wt l=true∧(JeV b.rd l=true∨JeV b.wt l=true))∨(JeV b.wt l=true∧JeV a.rd l=true)):JaR a b=true:=by
 have:(Nat.lor (Nat.land a.wt (Nat.lor b.rd b.wt)) (Nat.land b.wt a.rd)).testBit l.num=true:=by
  simp only[testBit_or,testBit_and]
  unfold JeV at h
  rcases h with⟨h1,h2|h2⟩|⟨h1,h2⟩<;>simp[h1,h2]
 unfold JaR
 cases hb:Nat.beq (Nat.lor (Nat.land a.wt (Nat.lor b.rd b.wt)) (Nat.land b.wt a.rd)) 0 with
 |false=>rfl
 |true=>
  rw[Nat.eq_of_beq_eq_true hb] at this
  simp at this
theorem JcZ {b:Rec} {anc:Nat}:∀{l:List Rec} {i:Nat},Ji4 b anc l i=true→∀j a,l[j]? =some a→JaR a b=true→anc.testBit (i+j)=true
 |[],i,_,j,a,h,_=>by simp at h
 | x::r,i,hr,j,a,h,hc=>by
  simp only[Ji4,Bool.and_eq_true,Bool.or_eq_true,Bool.not_eq_true'] at hr
  cases j with
  |zero=>
   simp at h
   subst h
   rcases hr.1 with h1|h1
   ·rw[hc] at h1;cases h1
   ·simpa using h1
  |succ j=>
   have:=JcZ hr.2 j a (by simpa using h) hc
   rwa [show i+(j+1)=i+1+j by omega]
theorem Jc2 {all:List Rec} {ancs:List Nat}:∀{l:List Rec} {j:Nat},JjK all ancs l j=true→∀m b,l[m]? =some b→∀i a,i<j+m→all[i]? =some a→JaR a b=true→(ancs.getD (j+m) 0).testBit i=true
 |[],j,_,m,b,h=>by simp at h
 | x::r,j,hr,m,b,h=>by
  intro i a hi ha hc
  simp only[JjK,Bool.and_eq_true] at hr
  cases m with
  |zero=>
   simp at h
   subst h
   have:=JcZ hr.1 i a (by rw[List.getElem?_take,if_pos (by omega)];exact ha) hc
   simpa using this
  |succ m=>
   have:=Jc2 hr.2 m b (by simpa using h) i a (by omega) ha hc
   rwa [show j+(m+1)=j+1+m by omega]
theorem Jdz:∀(l:List Oper) (i:Nat) (acc:List Nat) (j:Nat),j<acc.length→(Jiy l i acc).getD j 0=acc.reverse.getD j 0
 |[],i,acc,j,h=>by simp[Jiy]
 |o::r,i,acc,j,h=>by
  rw[Jiy,Jdz r (i+1) _ j (by simp;omega)]
  simp only[List.reverse_cons,List.getD]
  rw[List.getElem?_append_left (by simpa using h)]
theorem Jen:∀(l:List Oper) (acc:List Nat),∀j o,l[j]? =some o→∀i,((Jiy l acc.length acc).getD (acc.length+j) 0).testBit i=true→
  ∃e∈o.after,Region.binds .any e=true∧(i=e.on∨(e.on<acc.length+j∧((Jiy l acc.length acc).getD e.on 0).testBit i=true))
 |[],acc,j,o,h=>by simp at h
 | x ::r,acc,j,o,h=>by
  intro i hi
  rw[Jiy] at hi ⊢
  have ih:=Jen r ((orL (x.after.toList.map fun e=>bif Region.binds .any e then Nat.lor (Nat.pow 2 e.on) (acc.reverse.getD e.on 0) else 0))::acc)
  cases j with
  | zero=>
   simp at h
   subst h
   rw[Nat.add_zero,Jdz _ _ _ _ (by simp)] at hi
   simp only[List.reverse_cons,List.getD] at hi
   rw[List.getElem?_append_right (by simp)] at hi
   simp only[List.length_reverse,Nat.add_zero,Nat.sub_self,List.getElem?_cons_zero,Option.getD_some] at hi
   obtain⟨m,h1,h2⟩:=Qc.1 hi
   simp only[List.mem_map] at h1
   obtain⟨e,h3,h4⟩:=h1
   refine⟨e,by simpa using h3,?_⟩
   cases hb:Region.binds .any e with
   |false=>simp[hb] at h4;subst h4;simp at h2
   | true=>
    simp only[hb,cond_true] at h4
    subst h4
    refine⟨rfl,?_⟩
    rw[testBit_or,Bool.or_eq_true] at h2
    rcases h2 with h2|h2
    ·left
     have:i=e.on:=by
      simp only[Nat.pow_eq,Nat.testBit_two_pow] at h2
      simpa[eq_comm] using h2
     exact this
    ·right
     have hlt:e.on<acc.length:=by
      rcases Nat.lt_or_ge e.on acc.length with h'|h'
      ·exact h'
      ·simp[List.getElem?_eq_none (show acc.reverse.length≤e.on by simpa using h')] at h2
     refine⟨by omega,?_⟩
     rw[Jdz _ _ _ _ (by simp;omega)]
     simp only[List.reverse_cons,List.getD]
     rw[List.getElem?_append_left (by simpa using hlt)]
     simpa[List.getD] using h2
  |succ j=>
   have:=ih j o (by simpa using h) i (by simpa[Nat.add_assoc,Nat.add_comm 1 j] using hi)
   simpa[Nat.add_assoc,Nat.add_comm 1 j] using this
theorem Qy:∀{l:List Oper} {i:Nat},Jco l i=true→∀j o,l[j]? =some o→∀e∈o.after,Region.binds .any e=true→e.on<i+j
 |[],i,_,j,o,h=>by simp at h
 | x::r,i,hr,j,o,h=>by
  intro e he hb
  simp only[Jco,Bool.and_eq_true,List.all_eq_true,Bool.or_eq_true,Bool.not_eq_true',Nat.blt_eq] at hr
  cases j with
  |zero=>
   simp at h
   subst h
   rcases hr.1 e (by simpa using he) with h1|h1
   ·rw[hb] at h1;cases h1
   ·simpa using h1
  |succ j=>
   have:=Qy hr.2 j o (by simpa using h) e he hb
   omega
theorem Jc8 {ops:List Oper} {D:Nat→Bool} (hclosed:∀j o,ops[j]? =some o→D j=true→∀e∈o.after,Region.binds .any e=true→D e.on=true) (he:Jco ops 0=true):
  ∀(j:Nat) (o:Oper),ops[j]? =some o→(∀e∈o.after,Region.binds .any e=true→D e.on=true)→∀i,((Jiy ops 0 []).getD j 0).testBit i=true→D i=true:=by
 intro j
 induction j using Nat.strongRecOn with
 | _ j ih=>
  intro o ho hd i hi
  obtain⟨e,h1,h2,h3⟩:=Jen ops [] j o ho i (by simpa using hi)
  rcases h3 with rfl|⟨h3,h4⟩
  ·exact hd e h1 h2
  ·have hlt:e.on<j:=by have:=Qy he j o ho e h1 h2;omega
   have hj:j<ops.length:=(List.getElem?_eq_some_iff.1 ho).1
   have hoe:ops[e.on]? =some ops[e.on]:=List.getElem?_eq_getElem (by omega)
   refine ih e.on hlt _ hoe (hclosed e.on _ hoe (hd e h1 h2)) i ?_
   simpa using h4
section fold
variable (recs:List Rec) (σ0:Stt)
def stD (D:Nat→Bool):Nat→Stt
 |0=>σ0
 |m+1=>match recs[m]? with
  |some r=>if D m then applyE r.o.dst r.eff (stD D m) else stD D m
  |none=>stD D m
def JgZ (r:Rec) (l:Loc):Prop:=(∃d,r.o.dst=some d∧l= .s d)∨∃p∈r.eff.wr,l= .h p.1
theorem JbN {dst:Option Nat} {e:Eff} {σ:Stt} {l:Loc} (h1:∀d,dst=some d→l≠ .s d) (h2:∀p∈e.wr,l≠ .h p.1):applyE dst e σ l=σ l:=by
 have hH:∀(wr:List (Nat×Ent)),(∀p∈wr,l≠ .h p.1)→Wl σ wr l=σ l:=by
  intro wr
  induction wr with
  |nil=>intro _;rfl
  |cons p r ih=>
   intro h
   obtain⟨κ,x⟩:=p
   simp only[Wl]
   rw[WH _ _ (fun e=>h (κ,x) (by simp) e.symm)]
   exact ih fun p hp=>h p (by simp[hp])
 cases dst with
 |none=>exact hH _ h2
 |some d=>
  simp only[applyE]
  rw[WH _ _ (fun e=>h1 d rfl e.symm)]
  exact hH _ h2
theorem JdW {dst:Option Nat} {e:Eff} {σ σ':Stt} {l:Loc} (h:σ l=σ' l):applyE dst e σ l=applyE dst e σ' l:=by
 have hH:∀(wr:List (Nat×Ent)),Wl σ wr l=Wl σ' wr l:=by
  intro wr
  induction wr with
  |nil=>exact h
  |cons p r ih=>obtain⟨κ,x⟩:=p;simp only[Wl,JdP];rw[ih]
 cases dst with
 |none=>exact hH _
 |some d=>simp only[applyE,JdP];rw[hH]
theorem Je4 {dst:Option Nat} {e:Eff} {σ σ':Stt} {l:Loc} (h:(∃d,dst=some d∧l= .s d)∨∃p∈e.wr,l= .h p.1):applyE dst e σ l=applyE dst e σ' l:=by
 have hH:∀(wr:List (Nat×Ent)),(∃p∈wr,l= .h p.1)→Wl σ wr l=Wl σ' wr l:=by
  intro wr
  induction wr with
  |nil=>rintro ⟨p,hp,_⟩;simp at hp
  | cons p r ih=>
   intro h
   obtain⟨κ,x⟩:=p
   simp only[Wl,JdP]
   cases hb:Loc.beq (.h κ) l with
   |true=>rfl
   |false=>
    simp only[cond_false]
    refine ih ?_
    obtain⟨q,h1,h2⟩:=h
    rcases List.mem_cons.1 h1 with rfl|h1
    ·rw[h2,Loc.beq_iff.2 rfl] at hb;cases hb
    ·exact⟨q,h1,h2⟩
 cases dst with
 |none=>
  rcases h with⟨d,h1,_⟩|h
  ·cases h1
  ·exact hH _ h
 | some d=>
  simp only[applyE,JdP]
  cases hb:Loc.beq (.s d) l with
  |true=>rfl
  |false=>
   simp only[cond_false]
   rcases h with⟨d',h1,h2⟩|h
   ·cases h1;rw[h2,Loc.beq_iff.2 rfl] at hb;cases hb
   ·exact hH _ h
theorem JdN {D D':Nat→Bool} {l:Loc}:∀(m:Nat),(∀i r,i<m→recs[i]? =some r→JgZ r l→D i=D' i)→stD recs σ0 D m l=stD recs σ0 D' m l
 |0,_=>rfl
 | m+1,h=>by
  have ih:=JdN m fun i r hi=>h i r (by omega)
  simp only[stD]
  cases hr:recs[m]? with
  |none=>simpa using ih
  | some r=>
   simp only
   by_cases hw:JgZ r l
   ·rw[h m r (by omega) hr hw]
    split
    ·exact JdW ih
    ·exact ih
   ·have hne:∀σ,applyE r.o.dst r.eff σ l=σ l:=fun σ=>JbN (fun d hd e=>hw (.inl ⟨d,hd,e⟩)) (fun p hp e=>hw (.inr ⟨p,hp,e⟩))
    split<;>split<;>simp only[hne,ih]
theorem Jdr {D:Nat→Bool} {l:Loc} {k:Nat}:∀(m:Nat),k≤m→(∀i r,k≤i→i<m→recs[i]? =some r→JgZ r l→D i=false)→stD recs σ0 D m l=stD recs σ0 D k l
 | 0, hk, _ => by have:k=0:=by omega
                  subst this;rfl
 | m +1,hk,h=>by
  by_cases he:k=m+1
  ·subst he;rfl
  ·have ih:=Jdr (D:=D) (l:=l) (k:=k) m (by omega) fun i r h1 h2=>h i r h1 (by omega)
   rw[←ih]
   simp only[stD]
   cases hr:recs[m]? with
   |none=>rfl
   | some r=>
    simp only
    by_cases hw:JgZ r l
    ·rw[h m r (by omega) (by omega) hr hw];rfl
    ·split
     ·exact JbN (fun d hd e=>hw (.inl ⟨d,hd,e⟩)) (fun p hp e=>hw (.inr ⟨p,hp,e⟩))
     ·rfl
end fold
theorem JfA {σ σ':Stt} {x:Operand} (h:∀t,x= .tmp t→σ' (.s t)=σ (.s t)):Jg σ' x=Jg σ x:=by
 cases x with
 |tmp t=>simp only[Jg,Jaj];rw[h t rfl]
 |_=>rfl
theorem JbS {σ σ':Stt} {κ:Nat} (h:σ' (.h κ)=σ (.h κ)):Jh σ' κ=Jh σ κ:=by unfold Jh;rw[h]
theorem Jfn {T:TypeId→Option TD} {hp hp':Nat→Option Ent} {hint:Hint} {t:TypeId} {u:SV} (h:∀κ∈u.keys,hp' κ=hp κ):JgS T hp' hint t u=JgS T hp hint t u:=by
 unfold JgS
 split
 ·rename_i κ off;rw[h κ (by simp[SV.keys,V1.keys,V1.keys.lk])]
 ·rename_i κ base n i;rw[h κ (by simp[SV.keys,V1.keys,V1.keys.lk])]
 ·rename_i κ sz i off;rw[h κ (by simp[SV.keys,V1.keys,V1.keys.lk])]
 ·rfl
theorem JeA {T:TypeId→Option TD} {hp hp':Nat→Option Ent} {t:TypeId} {u v:SV} (h:∀κ∈u.keys,hp' κ=hp κ):JcO T hp' t u v=JcO T hp t u v:=by
 unfold JcO
 split
 ·rename_i κ off m;rw[h κ (by simp[SV.keys,V1.keys,V1.keys.lk])]
 ·rename_i κ off m;rw[h κ (by simp[SV.keys,V1.keys,V1.keys.lk])]
 ·rename_i κ base n i k v;rw[h κ (by simp[SV.keys,V1.keys,V1.keys.lk])]
 ·rename_i κ sz i off k v;rw[h κ (by simp[SV.keys,V1.keys,V1.keys.lk])]
 ·rfl
theorem Jg2 {σ σ':Stt} {u:SV} (h:∀κ∈u.keys,Jh σ' κ=Jh σ κ):JiW σ' u=JiW σ u:=by
 unfold JiW
 split
 ·rename_i κ;rw[h κ (by simp[SV.keys,V1.keys,V1.keys.lk])]
 ·rfl
 ·rfl
theorem Qa {σ σ':Stt} {u:SV} (h:∀κ∈u.keys,Jh σ' κ=Jh σ κ):JbW σ' u=JbW σ u:=by
 unfold JbW
 split
 ·rename_i κ;rw[h κ (by simp[SV.keys,V1.keys,V1.keys.lk])]
 ·rfl
theorem JdH {T:TypeId→Option TD} {σ σ':Stt} {hint:Hint} {t:TypeId} {u v:SV} (hu:∀κ∈u.keys,Jh σ' κ=Jh σ κ) (hv:∀κ∈v.keys,Jh σ' κ=Jh σ κ):Ja5 T σ' hint t u v=Ja5 T σ hint t u v:=by
 unfold Ja5
 split
 ·split
  ·rename_i κ;rw[hu κ (by simp[SV.keys,V1.keys,V1.keys.lk])]
  ·rfl
  ·rename_i κ _;rw[hu κ (by simp[SV.keys,V1.keys,V1.keys.lk]),Qa hv]
  ·rw[Qa hv]
  ·rfl
 ·rfl
theorem JcC {T:TypeId→Option TD} {σ σ':Stt} {hint:Hint} {t:TypeId} {u v:SV} (hu:∀κ∈u.keys,Jh σ' κ=Jh σ κ) (hv:∀κ∈v.keys,Jh σ' κ=Jh σ κ):QJ T σ' hint t u v=QJ T σ hint t u v:=by
 unfold QJ
 split
 ·rename_i κ2 _
  rw[hv κ2 (by simp[SV.keys,V1.keys,V1.keys.lk])]
  split
  ·split
   ·rename_i κ
    rw[hu κ (by simp[SV.keys,V1.keys,V1.keys.lk])]
   ·rfl
   ·rfl
  ·split
   ·rename_i κ
    rw[hu κ (by simp[SV.keys,V1.keys,V1.keys.lk])]
   ·rfl
   ·rfl
  ·rfl
 ·rfl
theorem JgU {σ σ':Stt} {sz n:Nat} {ps:List (Nat×Operand)} (h:∀p∈ps,Jg σ' p.2=Jg σ p.2):Jlr σ' sz n ps=Jlr σ sz n ps:=by
 unfold Jlr
 split
 ·rename_i x;rw[h (0,x) (by simp)]
 ·rename_i x y;rw[h (0,x) (by simp),h (1,y) (by simp)]
 ·rfl
theorem JgI {T:TypeId→Option TD} {σ σ':Stt} {e:TypeId} {sz n:Nat} {ps:List (Nat×Operand)} (h:∀p∈ps,Jg σ' p.2=Jg σ p.2) (g:∀p∈ps,∀v,Jg σ p.2=some v→∀κ∈v.keys,Jh σ' κ=Jh σ κ):Ji9 T σ' e sz n ps=Ji9 T σ e sz n ps:=by
 unfold Ji9
 split
 ·rename_i x
  have hx0:Jg σ' x=Jg σ x:=h (0,x) (by simp)
  have gx:∀v,Jg σ x=some v→∀κ∈v.keys,Jh σ' κ=Jh σ κ:=g (0,x) (by simp)
  rw[hx0]
  split
  ·rename_i κ _ hx
   rw[gx _ hx κ (by simp[SV.keys,V1.keys,V1.keys.lk])]
  ·rename_i κ _ hx
   rw[gx _ hx κ (by simp[SV.keys,V1.keys,V1.keys.lk])]
  ·rfl
  ·rfl
 ·rfl
theorem Jd0 {σ σ':Stt} {hint:Hint} {κ:Nat} {lo hi:Option SV} (h:Jh σ' κ=Jh σ κ):Jel σ' hint κ lo hi=Jel σ hint κ lo hi:=by
 unfold Jel
 rw[h]
theorem Jdp {σ σ':Stt} {hint:Hint} {κ sz:Nat} {lo hi:Option SV} (h:Jh σ' κ=Jh σ κ):Jcg σ' hint κ sz lo hi=Jcg σ hint κ sz lo hi:=by
 unfold Jcg
 rw[h]
theorem Jbb {σ σ':Stt} {ks:List Nat} (h:∀κ∈ks,Jh σ' κ=Jh σ κ):∀(news:List (Nat×Ent)),Jbk σ' ks news=Jbk σ ks news
 |[]=>rfl
 |p::r=>by
  simp only[Jbk,Jbb h r]
  cases hc:ks.any (Nat.beq p.1) with
  |false=>rfl
  |true=>rw[h p.1 (Jcv.1 hc)]
theorem Jam {σ σ':Stt}:∀{xs:List Operand},(∀x∈xs,Jg σ' x=Jg σ x)→JdO σ' xs=JdO σ xs
 |[],_=>rfl
 |x::r,h=>by simp only[JdO];rw[h x (by simp),Jam fun y hy=>h y (by simp[hy])]
theorem Jcm {σ σ':Stt}:∀{ks:List Nat},(∀κ∈ks,Jh σ' κ=Jh σ κ)→YY σ' ks=YY σ ks
 |[],_=>rfl
 |κ::r,h=>by simp only[YY];rw[h κ (by simp),Jcm fun y hy=>h y (by simp[hy])]
theorem Jgy {k:IntKind} {ρ ρ':Operand→Option SV} {hp hp':Nat→Option Ent} {x:Operand} (h:ρ' x=ρ x) (g:∀v,ρ x=some v→∀κ∈v.keys,hp' κ=hp κ):JiX k ρ' hp' x=JiX k ρ hp x:=by
 unfold JiX
 rw[h]
 split
 ·rfl
 ·rename_i κ hx
  rw[g _ hx κ (by simp[SV.keys,V1.keys,V1.keys.lk])]
 ·rfl
theorem Jc1 {ρ ρ':Operand→Option SV} {hp hp':Nat→Option Ent}:∀{ps:List (Nat×Operand)},(∀p∈ps,ρ' p.2=ρ p.2)→(∀p∈ps,∀v,ρ p.2=some v→∀κ∈v.keys,hp' κ=hp κ)→JbG ρ' hp' ps=JbG ρ hp ps
 |[],_,_=>rfl
 | (j,x)::r,h,g=>by
  have ih:=Jc1 (ps:=r) (fun p hp=>h p (List.mem_cons_of_mem _ hp)) fun p hp=>g p (List.mem_cons_of_mem _ hp)
  have hx0:ρ' x=ρ x:=h (j,x) (by simp)
  have gx:∀v,ρ x=some v→∀κ∈v.keys,hp' κ=hp κ:=g (j,x) (by simp)
  simp only[JbG]
  rw[hx0,ih]
  split
  ·rename_i κ hx
   rw[gx _ hx κ (by simp[SV.keys,V1.keys,V1.keys.lk])]
  ·rfl
theorem Jb5 {k:IntKind} {ρ ρ':Operand→Option SV} {hp hp':Nat→Option Ent}:∀{ps:List (Nat×Operand)} {i:Nat},(∀p∈ps,ρ' p.2=ρ p.2)→(∀p∈ps,∀v,ρ p.2=some v→∀κ∈v.keys,hp' κ=hp κ)→QX k ρ' hp' i ps=QX k ρ hp i ps
 |[],_,_,_=>rfl
 |(j,x)::r,i,h,g=>by
  simp only[QX]
  rw[Jgy (h (j,x) (by simp)) (g (j,x) (by simp)),Jb5 (fun p hp=>h p (List.mem_cons_of_mem _ hp)) fun p hp=>g p (List.mem_cons_of_mem _ hp)]
theorem Jap {k:IntKind} {ρ ρ':Operand→Option SV}:∀{ps:List (Nat×Operand)} {acc:List Int},(∀p∈ps,ρ' p.2=ρ p.2)→JaT k ps ρ' acc=JaT k ps ρ acc
 |[],_,_=>rfl
 |(i,x)::r,acc,h=>by
  have ih:∀acc,JaT k r ρ' acc=JaT k r ρ acc:=fun acc=>Jap fun p hp=>h p (List.mem_cons_of_mem _ hp)
  have e:ρ' x=ρ x:=h (i,x) (by simp)
  simp only[JaT,e,ih]
theorem Jcj {ρ ρ':Operand→Option SV} {offs:List (Nat×Nat)}:∀{ps:List (Nat×Operand)} {acc:List Leaf},(∀p∈ps,ρ' p.2=ρ p.2)→Jbv ps ρ' offs acc=Jbv ps ρ offs acc
 |[],_,_=>rfl
 |(i,x)::r,acc,h=>by
  have ih:∀acc,Jbv r ρ' offs acc=Jbv r ρ offs acc:=fun acc=>Jcj fun p hp=>h p (List.mem_cons_of_mem _ hp)
  have e:ρ' x=ρ x:=h (i,x) (by simp)
  simp only[Jbv,e,ih]
theorem Jc3 {σ σ':Stt} {o:Option Operand} (h:∀x,o=some x→Jg σ' x=Jg σ x):Jbm σ' o=Jbm σ o:=by
 cases o with
 |none=>rfl
 |some x=>simp only[Jbm];rw[h x rfl]
theorem Xr {P:Program} {T:TypeId→Option TD} {σ σ':Stt} {hint:Hint} {op:Op} (hs:∀x∈op.operands,Jg σ' x=Jg σ x)
  (hk:∀x∈op.operands,∀v,Jg σ x=some v→∀κ∈v.keys,Jh σ' κ=Jh σ κ) (hh:∀κ∈Jbo hint,Jh σ' κ=Jh σ κ):JgR P T σ' hint op=JgR P T σ hint op:=by
 unfold JgR
 split
 ·rw[hs _ (by simp[Op.operands])]
 ·rw[hs _ (by simp[Op.operands])]
 ·rename_i c x y;rw[hs c (by simp[Op.operands]),hs x (by simp[Op.operands]),hs y (by simp[Op.operands])]
 ·rw[hs _ (by simp[Op.operands])]
 ·rw[hs _ (by simp[Op.operands])]
 ·rename_i src dst x
  rw[hs _ (by simp[Op.operands])]
  split
  ·rfl
  ·rfl
  ·rename_i κ _ _ hx;rw[hk x (by simp[Op.operands]) _ hx κ (by simp[SV.keys,V1.keys,V1.keys.lk])]
  ·rename_i v _ _ _ hx;rw[Qa (hk x (by simp[Op.operands]) _ hx)]
  ·rfl
 ·rename_i op' t x y _
  rw[hs x (by simp[Op.operands]),hs y (by simp[Op.operands])]
  split
  ·rfl
  ·rename_i κ hx hy;rw[hk x (by simp[Op.operands]) _ hx κ (by simp[SV.keys,V1.keys,V1.keys.lk])]
  ·rfl
  ·rfl
  ·rfl
 ·rw[hs _ (by simp[Op.operands])]
 ·rename_i t x i;rw[hs x (by simp[Op.operands]),hs i (by simp[Op.operands])]
 ·rfl
 ·rw[hs _ (by simp[Op.operands])]
 ·rename_i t ps
  have hp:∀p∈ps.toList,Jg σ' p.2=Jg σ p.2:=fun p hp=>hs p.2 (by simp only[Op.operands,List.mem_toArray,List.mem_map];exact⟨p,hp,rfl⟩)
  simp only[Jcj hp]
  split
  ·rw[Jap hp]
  ·rfl
  ·rfl
 ·rename_i t n ps
  have hp:∀p∈ps.toList,Jg σ' p.2=Jg σ p.2:=fun p hp=>hs p.2 (by simp only[Op.operands,List.mem_toArray,List.mem_map];exact⟨p,hp,rfl⟩)
  split
  ·rw[Jap hp]
  ·rw[JgU hp]
  ·have hr:∀k,QX k (Jg σ') (Jh σ') 0 ps.toList=QX k (Jg σ) (Jh σ) 0 ps.toList:=fun k=>Jb5 hp fun p hp'=>hk p.2 (by simp only[Op.operands,List.mem_toArray,List.mem_map];exact⟨p,hp',rfl⟩)
   have hz:=Jc1 hp fun p hp'=>hk p.2 (by simp only[Op.operands,List.mem_toArray,List.mem_map];exact⟨p,hp',rfl⟩)
   have hq:∀e sz,Ji9 T σ' e sz n ps.toList=Ji9 T σ e sz n ps.toList:=fun e sz=>JgI hp fun p hp'=>hk p.2 (by simp only[Op.operands,List.mem_toArray,List.mem_map];exact⟨p,hp',rfl⟩)
   simp only[hr,hz,hq]
  ·rfl
 ·rename_i t x y;rw[hs x (by simp[Op.operands]),hs y (by simp[Op.operands])]
 ·rename_i t x
  rw[hs x (by simp[Op.operands])]
  cases hx:Jg σ x with
  |none=>rfl
  |some u=>simp only[Option.bind_some];rw[Jfn (hk x (by simp[Op.operands]) u hx)]
 ·rename_i t x y
  rw[hs x (by simp[Op.operands]),hs y (by simp[Op.operands])]
  split
  ·rename_i u v hx hy;exact JeA (hk x (by simp[Op.operands]) u hx)
  ·rfl
 ·rename_i t x f
  rw[hs x (by simp[Op.operands])]
  split
  ·rfl
  ·rename_i κ sz i off hd hx
   rw[hk x (by simp[Op.operands]) _ hx κ (by simp[SV.keys,V1.keys,V1.keys.lk])]
  ·rfl
 ·rename_i t x i
  rw[hs x (by simp[Op.operands]),hs i (by simp[Op.operands])]
  split
  ·rfl
  ·rename_i κ _ _ _ hx _
   rw[hk x (by simp[Op.operands]) _ hx κ (by simp[SV.keys,V1.keys,V1.keys.lk])]
  ·rename_i κ _ _ _ hx _
   rw[hk x (by simp[Op.operands]) _ hx κ (by simp[SV.keys,V1.keys,V1.keys.lk])]
  ·rfl
 ·rename_i t x lo hi
  have h1:Jbm σ' lo=Jbm σ lo:=Jc3 fun y hy=>hs y (by simp[Op.operands,hy])
  have h2:Jbm σ' hi=Jbm σ hi:=Jc3 fun y hy=>hs y (by simp[Op.operands,hy])
  rw[hs x (by simp[Op.operands]),h1,h2]
  split
  ·rfl
  ·rename_i κ _ _ _ hx _ _
   exact Jd0 (hk x (by simp[Op.operands]) _ hx κ (by simp[SV.keys,V1.keys,V1.keys.lk]))
  ·rename_i κ _ _ _ hx _ _
   exact Jdp (hk x (by simp[Op.operands]) _ hx κ (by simp[SV.keys,V1.keys,V1.keys.lk]))
  ·rfl
  ·rfl
 ·rename_i args ts
  have ha:∀x,args[0]? =some x→Jg σ' x=Jg σ x:=fun x hx=>hs x (by
   simp only[Op.operands,Call.operands,Array.mem_append];exact .inr (Array.mem_of_getElem? hx))
  have e:(args[0]?).bind (Jg σ')=(args[0]?).bind (Jg σ):=by
   cases hx:args[0]? with
   |none=>rfl
   |some x=>simp only[Option.bind_some];exact ha x hx
  have hl:∀v,(args[0]?).bind (Jg σ)=some v→JiW σ' v=JiW σ v:=fun v hv=>by
   cases hx0:args[0]? with
   |none=>rw[hx0] at hv;cases hv
   |some x=>
    rw[hx0] at hv
    exact Jg2 (hk x (by simp only[Op.operands,Call.operands,Array.mem_append];exact .inr (Array.mem_of_getElem? hx0)) _ hv)
  rw[e]
  split
  ·rfl
  ·rename_i x0 _ hx;rw[hl x0 hx]
  ·rename_i x0 _ hx;rw[hl x0 hx]
  ·rfl
 ·rename_i args ts
  have ha:∀(j:Nat),(args[j]?).bind (Jg σ')=(args[j]?).bind (Jg σ):=fun j=>by
   cases hx:args[j]? with
   |none=>rfl
   |some x=>simp only[Option.bind_some];exact hs x (by simp only[Op.operands,Call.operands,Array.mem_append];exact .inr (Array.mem_of_getElem? hx))
  rw[ha]
 ·rename_i args ts
  have ha:∀(j:Nat),(args[j]?).bind (Jg σ')=(args[j]?).bind (Jg σ):=fun j=>by
   cases hx:args[j]? with
   |none=>rfl
   |some x=>simp only[Option.bind_some];exact hs x (by simp only[Op.operands,Call.operands,Array.mem_append];exact .inr (Array.mem_of_getElem? hx))
  rw[ha,ha]
 ·rename_i args ts
  have ha:∀(j:Nat),(args[j]?).bind (Jg σ')=(args[j]?).bind (Jg σ):=fun j=>by
   cases hx:args[j]? with
   |none=>rfl
   |some x=>simp only[Option.bind_some];exact hs x (by simp only[Op.operands,Call.operands,Array.mem_append];exact .inr (Array.mem_of_getElem? hx))
  rw[ha,ha]
 ·rename_i args ts
  have hm:∀x∈args.toList,x∈(Op.call ⟨.builtin .append,args,ts⟩).operands:=fun x hx=>by simp only[Op.operands,Call.operands,Array.mem_append];exact .inr (by simpa using hx)
  split
  ·rename_i x y t t' ha ht
   have hx:x∈args.toList:=by rw[ha];simp
   have hy:y∈args.toList:=by rw[ha];simp
   rw[hs x (hm x hx),hs y (hm y hy)]
   cases hc:Nat.beq t t' with
   | false=>
    simp only[cond_false]
    split
    ·rfl
    ·rename_i κ _ _ _ _ _ hu _
     rw[hk x (hm x hx) _ hu κ (by simp[SV.keys,V1.keys,V1.keys.lk])]
    ·rfl
   | true=>
    simp only[cond_true]
    split
    ·rename_i u v hu hv
     split
     ·exact JcC (hk x (hm x hx) u hu) (hk y (hm y hy) v hv)
     ·exact JdH (hk x (hm x hx) u hu) (hk y (hm y hy) v hv)
    ·rfl
  ·rfl
 ·rename_i c args ts
  rw[hs c (by simp[Op.operands,Call.operands])]
  split
  ·rename_i ks res news f hc
   simp only[JkQ]
   have ha:∀x∈args.toList,Jg σ' x=Jg σ x:=fun x hx=>hs x (by simp only[Op.operands,Call.operands,Array.mem_append];exact .inr (by simpa using hx))
   have hks:∀κ∈ks,Jh σ' κ=Jh σ κ:=hh
   rw[Jam ha,Jbb hks,Jcm hks]
  ·rfl
 ·rfl
theorem Je0 {σ σ':Stt} {news:List (Nat×Ent)} (h:∀κ∈(news.flatMap fun p=>JlL (some p.2)),Jh σ' κ=Jh σ κ):news.map (JaZ σ')=news.map (JaZ σ):=by
 refine List.map_congr_left fun p hp=> ?_
 obtain⟨κ,e⟩:=p
 cases e with
 | arena rw' bs H=>
  have hb:∀κb∈bs,Jh σ' κb=Jh σ κb:=fun κb hκb=>h κb (by simp only[List.mem_flatMap];exact⟨_,hp,hκb⟩)
  have:∀l:List Nat,(∀κb∈l,Jh σ' κb=Jh σ κb)→(l.flatMap fun κb=>JlL (Jh σ' κb))=l.flatMap fun κb=>JlL (Jh σ κb):=by
   intro l hl
   induction l with
   |nil=>rfl
   |cons x r ih=>simp only[List.flatMap_cons];rw[hl x (by simp),ih fun κb hκb=>hl κb (by simp[hκb])]
  simp only[JaZ]
  rw[this bs hb]
 |_=>rfl
theorem JhC {T:TypeId→Option TD} {σ σ':Stt} {ns:List Nat} {op:Op} (hs:∀x∈op.operands,Jg σ' x=Jg σ x)
  (hk:∀x∈op.operands,∀v,Jg σ x=some v→∀κ∈v.keys,Jh σ' κ=Jh σ κ):ofS T σ' ns op=ofS T σ ns op:=by
 cases op with
 | slice t x lo hi mx=>
  cases lo with
  |none=>rfl
  | some lo=>cases hi with
   |some hi=>rfl
   | none=>cases mx with
    |some mx=>rfl
    |none=>
     simp only[ofS]
     rw[hs x (by simp[Op.operands]),hs lo (by simp[Op.operands])]
     split
     ·rename_i κ _ _ _ _ hx _;rw[XX (hk x (by simp[Op.operands]) _ hx)]
     ·rfl
 |indexAddr t x i=>
  simp only[ofS]
  rw[hs x (by simp[Op.operands]),hs i (by simp[Op.operands])]
  split
  ·rename_i κ _ _ _ hx _;rw[XX (hk x (by simp[Op.operands]) _ hx)]
  ·rfl
 | load t x=>
  simp only[ofS]
  rw[hs x (by simp[Op.operands])]
  split
  ·rename_i κ i _ hx
   rw[XX (u:= .v (.one (.slc κ))) fun κ' hκ'=>hk x (by simp[Op.operands]) _ hx κ' (by simpa[SV.keys,V1.keys,V1.keys.lk] using hκ')]
  ·rfl
 | call c=>
  obtain⟨callee,args,ts⟩:=c
  cases callee with
  | builtin b=>cases b with
   | len=>
    have e:(args[0]?).bind (Jg σ')=(args[0]?).bind (Jg σ):=by
     cases hx:args[0]? with
     |none=>rfl
     |some x=>exact hs x (by simp only[Op.operands,Call.operands,Array.mem_append];exact .inr (Array.mem_of_getElem? hx))
    simp only[ofS]
    rw[e]
    split
    ·rename_i u _ hx
     cases hx0:args[0]? with
     |none=>simp[hx0] at hx
     |some x=>
      simp only[hx0,Option.bind_some] at hx
      rw[XX (hk x (by simp only[Op.operands,Call.operands,Array.mem_append];exact .inr (Array.mem_of_getElem? hx0)) u hx)]
    ·rfl
   | append=>
    simp only[ofS]
    split
    ·rename_i x y t t' κ' ha _
     have hx:x∈(Op.call ⟨.builtin .append,args,ts⟩).operands:=by simp only[Op.operands,Call.operands,Array.mem_append];exact .inr (by rw[←Array.mem_toList_iff,ha];simp)
     have hy:y∈(Op.call ⟨.builtin .append,args,ts⟩).operands:=by simp only[Op.operands,Call.operands,Array.mem_append];exact .inr (by rw[←Array.mem_toList_iff,ha];simp)
     rw[hs x hx,hs y hy]
     have ek:(Jg σ y).bind (JbW σ')=(Jg σ y).bind (JbW σ):=by
      cases hv:Jg σ y with
      |none=>rfl
      |some u=>exact Qa (hk y hy u hv)
     rw[ek]
     cases Nat.beq t t' with
     |false=>rfl
     | true=>
      simp only[cond_true]
      split
      ·rename_i hu _
       rw[XX (hk x hx _ hu)]
      ·rfl
    ·rfl
   |_=>rfl
  |_=>rfl
 |_=>rfl
theorem JeW {P:Program} {T:TypeId→Option TD} {σ σ':Stt} {hint:Hint} {op:Op} (hs:∀x∈op.operands,Jg σ' x=Jg σ x)
  (hk:∀x∈op.operands,∀v,Jg σ x=some v→∀κ∈v.keys,Jh σ' κ=Jh σ κ) (hh:∀κ∈Jbo hint,Jh σ' κ=Jh σ κ):JaQ P T σ' hint op=JaQ P T σ hint op:=by
 cases hint with
 |ar κ ns=>
  simp only[JaQ]
  rw[hh κ (by simp[Jbo])]
  split
  ·exact Jcn hs hk
  ·rfl
 |arN κ ns=>
  simp only[JaQ]
  rw[Jcn hs hk]
 | callA ks res news=>
  simp only[JaQ]
  split
  ·rename_i c args ats
   rw[hs c (by simp[Op.operands,Call.operands])]
   split
   ·simp only[JhG]
    have ha:∀x∈args.toList,Jg σ' x=Jg σ x:=fun x hx=>hs x (by simp only[Op.operands,Call.operands,Array.mem_append];exact .inr (by simpa using hx))
    rw[Jam ha,Jc9 fun κ hκ=>hh κ (by simp only[Jbo,List.mem_append];exact .inl hκ),Je0 fun κ hκ=>hh κ (by simp only[Jbo,List.mem_append];exact .inr hκ)]
   ·rfl
  ·rfl
 |ei=>exact JhE hs hk
 |of ns=>exact JhC hs hk
 |oi ns=>exact Jhs hs hk
 |bb ns=>exact Jh0 hs hk
 |gk ks=>rfl
 |pn=>exact Jhp hs hk
 |arW κ ns=>
  simp only[JaQ]
  rw[hh κ (by simp[Jbo])]
  split
  ·exact JiL hs hk
  ·rfl
 |no=>exact Xr (P:=P) hs hk hh
 |key κ=>exact Xr (P:=P) hs hk hh
 |dk κ eb=>exact Xr (P:=P) hs hk hh
 |lk κ=>exact Xr (P:=P) hs hk hh
 |dec b=>exact Xr (P:=P) hs hk hh
 |call ks res news=>exact Xr (P:=P) hs hk hh
theorem JeZ {dsts:List (Option Nat)} {σ σ':Stt} {g:Option (Nat×Bool)} (h:∀j b d,g=some (j,b)→dsts[j]? =some (some d)→σ' (.s d)=σ (.s d)):Jeb dsts σ' g=Jeb dsts σ g:=by
 unfold Jeb
 split
 ·rfl
 ·rename_i j want
  split
  ·rename_i d hd
   simp only[Jaj]
   rw[h j want d rfl hd]
  ·rfl
end Go.Gw

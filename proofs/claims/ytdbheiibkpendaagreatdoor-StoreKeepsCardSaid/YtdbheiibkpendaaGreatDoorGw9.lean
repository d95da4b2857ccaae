/- The walk's engine, part 9: a region whose order is drawn. -/
import Derived.Test.YtdbheiibkpendaaGreatDoorGw8
namespace Go.Gw
open Go.RowKit
variable {P:Program} {T:TypeId→Option TD} {B:Nat→Prop} {N:Nat} {w0:W0}
def WV (r:Rec):SS:=
 match r.o.dst with
 |some d=>(.s d,.v r.eff.dstVal)::r.eff.wr.map (fun p=>(Loc.h p.1,Cont.e p.2))
 |none=>r.eff.wr.map (fun p=>(Loc.h p.1,Cont.e p.2))
theorem Jld (dst:Option Nat) (e:Eff) (σ:SS) (o:Oper) (h:Hint) (b:Bool) (x y:Nat) (ho:o.dst=dst):JaC dst e σ=WV ⟨o,h,b,e,x,y⟩++σ:=by
 subst ho
 unfold JaC WV
 cases o.dst<;>rfl
theorem Jdu (r:Rec) (recs:List Rec) (σ0:Stt):∀m,stD (r::recs) σ0 (fun _=>true) (m+1)=stD recs (applyE r.o.dst r.eff σ0) (fun _=>true) m
 |0=>by simp[stD]
 |m+1=>by
  have ih:=Jdu r recs σ0 m
  rw[stD,ih]
  conv=>rhs;rw[stD]
  simp only[List.getElem?_cons_succ]
structure RecAt (P:Program) (T:TypeId→Option TD) (N:Nat) (dsts:List (Option Nat)) (σm:SS) (o:Oper) (r:Rec):Prop where
 op:r.o=o
 dst:Jgs N o.dst=true
 want:Jeb dsts (look σm) o.guard=some r.want
 yes:r.want=true→Xj r.hint σm=true∧JaQ P T (look σm) r.hint o.op=some r.eff∧Jjh r.hint r.eff=true
 no:r.want=false→r.eff=⟨none,[],[]⟩
 rd:r.rd=JjZ dsts (look σm) r.hint o r.eff
 wt:r.wt=JlN o r.eff
theorem Jec {dsts:List (Option Nat)} {hs:List (Nat×Hint)}:∀(l:List Oper) (i:Nat) (σ σ':SS) (recs:List Rec),Jia P T N dsts hs l i σ=some (recs,σ')→
  recs.length=l.length∧look σ'=stD recs (look σ) (fun _=>true) recs.length∧
  ∀m o,l[m]? =some o→∃r σm,recs[m]? =some r∧look σm=stD recs (look σ) (fun _=>true) m∧(∀x∈σ,x∈σm)∧(∀m' r',m'<m→recs[m']? =some r'→∀x∈WV r',x∈σm)∧RecAt P T N dsts σm o r
 |[],i,σ,σ',recs,h=>by
  simp only[Jia,Option.some.injEq,Prod.mk.injEq] at h
  obtain⟨rfl,rfl⟩:=h
  exact⟨rfl,rfl,fun m o ho=>by simp at ho⟩
 | o ::l,i,σ,σ',recs,h=>by
  simp only[Jia] at h
  cases hd:Jgs N o.dst with
  |false=>simp[hd] at h
  | true=>
   simp only[hd,cond_true] at h
   have go:∀(r:Rec) (recs':List Rec),r.o=o→RecAt P T N dsts σ o r→Jia P T N dsts hs l (i+1) (JaC o.dst r.eff σ)=some (recs',σ')→recs=r::recs'→
     recs.length=(o::l).length∧look σ'=stD recs (look σ) (fun _=>true) recs.length∧
     ∀m o',(o::l)[m]? =some o'→∃r σm,recs[m]? =some r∧look σm=stD recs (look σ) (fun _=>true) m∧(∀x∈σ,x∈σm)∧(∀m' r',m'<m→recs[m']? =some r'→∀x∈WV r',x∈σm)∧RecAt P T N dsts σm o' r:=by
    intro r recs' hro hr h1 he
    subst he
    obtain⟨e1,e2,e3⟩:=Jec l (i+1) _ σ' recs' h1
    have hn:JaC o.dst r.eff σ=WV r++σ:=by
     obtain⟨ro,rh,rw',re,rx,ry⟩:=r
     exact Jld _ _ _ _ _ _ _ _ (by simp only at hro;rw[hro])
    refine⟨by simp[e1],by rw[e2,Jax,List.length_cons,Jdu,hro],fun m o' ho'=> ?_⟩
    cases m with
    |zero=>
     simp at ho'
     subst ho'
     exact⟨r,σ,rfl,rfl,fun x hx=>hx,fun m' r' hm=>by omega,hr⟩
    | succ m=>
     obtain⟨r2,σm,g1,g2,g3,g4,g5⟩:=e3 m o' (by simpa using ho')
     refine⟨r2,σm,by simpa using g1,by rw[g2,Jax,Jdu,hro],fun x hx=>g3 x (by rw[hn];simp[hx]),fun m' r' hm hr' x hx=> ?_,g5⟩
     cases m' with
     |zero=>
      simp at hr'
      subst hr'
      exact g3 x (by rw[hn];simp[hx])
     |succ m'=>exact g4 m' r' (by omega) (by simpa using hr') x hx
   split at h
   ·cases h
   ·rename_i hw
    simp only[Option.map_eq_some_iff] at h
    obtain⟨⟨recs',σ1⟩,h1,h2⟩:=h
    simp only[Prod.mk.injEq] at h2
    obtain⟨h2,rfl⟩:=h2
    exact go _ recs' rfl ⟨rfl,hd,hw,(fun e=>by cases e),fun _=>rfl,rfl,rfl⟩ h1 h2.symm
   ·rename_i hw
    cases hf:Xj (Jae hs i) σ with
    |false=>simp[hf] at h
    | true=>
     simp only[hf,cond_true] at h
     split at h
     ·cases h
     ·rename_i e he
      cases hx:Jjh (Jae hs i) e with
      |false=>simp[hx] at h
      |true=>
      simp only[hx,cond_true,Option.map_eq_some_iff] at h
      obtain⟨⟨recs',σ1⟩,h1,h2⟩:=h
      simp only[Prod.mk.injEq] at h2
      obtain⟨h2,rfl⟩:=h2
      exact go _ recs' rfl ⟨rfl,hd,hw,fun _=>⟨hf,he,hx⟩,(fun e=>by cases e),rfl,rfl⟩ h1 h2.symm
theorem Jfc {recs:List Rec} (h:Wn (Qo recs)):∀r∈recs,r.eff.need:=by
 induction recs with
 |nil=>intro r hr;simp at hr
 |cons x l ih=>
  intro r hr
  simp only[Qo] at h
  obtain⟨h1,h2⟩:=VU.1 h
  rcases List.mem_cons.1 hr with rfl|hr
  ·exact h1
  ·exact ih h2 r hr
theorem VK {r:Rec} {l:Loc} (hw:r.wt=JlN r.o r.eff) (h:JgZ r l):JeV r.wt l=true:=by
 unfold JeV
 rw[hw,JlN,testBit_or,Bool.or_eq_true]
 rcases h with⟨d,h1,rfl⟩|⟨p,h1,rfl⟩
 ·left
  rw[h1]
  exact(Jdh d _).2 rfl
 ·right
  refine Qc.2 ⟨JeU p.1,by simp only[List.mem_map];exact⟨p,h1,rfl⟩,(JaH _ _).2 rfl⟩
theorem Jdf {recs:List Rec} {σ0:Stt} {D:Nat→Bool} {l:Loc} {c:Cont}:∀(m:Nat),stD recs σ0 D m l=some c→σ0 l=some c∨∃i r,i<m∧recs[i]? =some r∧D i=true∧(l,c)∈WV r
 |0,h=> .inl h
 | m + 1,h=>by
  simp only[stD] at h
  cases hr:recs[m]? with
  |none=>
   simp only[hr] at h
   rcases Jdf m h with h|⟨i,r,h1,h2⟩
   ·exact .inl h
   ·exact .inr ⟨i,r,by omega,h2⟩
  | some r=>
   simp only[hr] at h
   have old:stD recs σ0 D m l=some c→σ0 l=some c∨∃i r,i<m+1∧recs[i]? =some r∧D i=true∧(l,c)∈WV r:=fun h=>by
    rcases Jdf m h with h|⟨i,r,h1,h2⟩
    ·exact .inl h
    ·exact .inr ⟨i,r,by omega,h2⟩
   cases hD:D m with
   |false=>rw[hD] at h;exact old (by simpa using h)
   | true=>
    rw[hD] at h
    simp only[if_true] at h
    have hH:∀(wr:List (Nat×Ent)) (σ:Stt),Wl σ wr l=some c→σ l=some c∨(l,c)∈wr.map (fun p=>(Loc.h p.1,Cont.e p.2)):=by
     intro wr
     induction wr with
     |nil=>intro σ h;exact .inl h
     | cons p q ih=>
      intro σ hu
      obtain⟨κ,x⟩:=p
      simp only[Wl,JdP] at hu
      cases hb:Loc.beq (.h κ) l with
      |true=>
       simp only[hb,cond_true,Option.some.injEq] at hu
       have:=Loc.beq_iff.1 hb
       rw[←this,←hu]
       exact .inr (by simp)
      |false=>
       simp only[hb,cond_false] at hu
       rcases ih σ hu with hu|hu
       ·exact .inl hu
       ·exact .inr (by simp only[List.map_cons,List.mem_cons];exact .inr hu)
    have hc:stD recs σ0 D m l=some c∨(l,c)∈WV r:=by
     unfold applyE at h
     unfold WV
     cases hdst:r.o.dst with
     |none=>rw[hdst] at h;exact hH _ _ h
     | some d=>
      rw[hdst] at h
      simp only[JdP] at h
      cases hb:Loc.beq (.s d) l with
      |true=>
       simp only[hb,cond_true,Option.some.injEq] at h
       have:=Loc.beq_iff.1 hb
       subst this;subst h
       exact .inr (by simp)
      |false=>
       simp only[hb,cond_false] at h
       rcases hH _ _ h with h|h
       ·exact .inl h
       ·exact .inr (List.mem_cons_of_mem _ h)
    rcases hc with h|h
    ·exact old h
    ·exact .inr ⟨m,r,by omega,hr,hD,h⟩
theorem JiC (l:List Bool) (i:Nat) (h:l[i]? =some false):(l.set i true).count false+1=l.count false:=by
 induction l generalizing i with
 |nil=>simp at h
 | cons x l ih=>
  cases i with
  |zero=>simp at h;subst h;simp
  |succ i=>
   have:=ih i (by simpa using h)
   simp only[List.set_cons_succ,List.count_cons]
   omega
theorem Jfr {r:Rec} {dsts:List (Option Nat)} {σ:Stt} (hr:r.rd=JjZ dsts σ r.hint r.o r.eff) {l:Loc} {c:Cont} (hc:(l,c)∈WV r) {κ:Nat} (hk:κ∈c.keys):JeV r.rd (.h κ)=true:=by
 unfold JeV
 rw[hr]
 simp only[JjZ,testBit_or,Bool.or_eq_true]
 right;right;right;right
 have hwr:∀p∈r.eff.wr,κ∈p.2.keys→(orL (r.eff.wr.map fun p=>orL (p.2.keysL.map JeU))).testBit (Loc.h κ).num=true:=fun p hp hk=>by
  refine Qc.2 ⟨orL (p.2.keysL.map JeU),by simp only[List.mem_map];exact⟨p,hp,rfl⟩,Qc.2 ⟨JeU κ,?_,(JaH _ _).2 rfl⟩⟩
  simp only[List.mem_map]
  refine⟨κ,?_,rfl⟩
  have:=JdM (.e p.2)
  simp only[Cont.keysL,Cont.keys] at this
  rw[this]
  exact hk
 have hv:κ∈r.eff.dstVal.keys→(orL (r.eff.dstVal.keys.map JeU)).testBit (Loc.h κ).num=true:=fun hk=>
  Qc.2 ⟨JeU κ,by simp only[List.mem_map];exact⟨κ,hk,rfl⟩,(JaH _ _).2 rfl⟩
 unfold WV at hc
 cases hd:r.o.dst with
 |none=>
  rw[hd] at hc
  simp only[List.mem_map] at hc
  obtain⟨p,hp,he⟩:=hc
  cases he
  exact .inr (hwr p hp hk)
 | some d=>
  rw[hd] at hc
  rcases List.mem_cons.1 hc with he|hc
  ·cases he
   exact .inl (hv hk)
  ·simp only[List.mem_map] at hc
   obtain⟨p,hp,he⟩:=hc
   cases he
   exact .inr (hwr p hp hk)
theorem Jg1 (hT:TOk P T) (hm:P.follows .mixedOrders=true) {id:Nat} {ops:Array Oper} {hs:List (Nat×Hint)} {live:List Loc} {σ σ':SS} {needs:List Prop} {Q:Exit→Act→World→Prop} {γ:Nat→Value} {a:Act} {w:World}
  (h:JmL P T N ops.toList hs live σ=some (σ',needs)) (hn:Wn needs) (I:Inv B N w0 γ (look σ) a w) (hQ:∀γ' a' w',Inv B N w0 γ' (look σ') a' w'→Q .normal a' w'):
  (Code.region id ops true).wp P Q a w:=by
 unfold JmL at h
 split at h
 ·cases h
 rename_i recs σ1 h1
 cases hord:Je2 ops.toList recs with
 |false=>simp[hord] at h
 |true=>
 simp only[hord,cond_true] at h
 split at h
 ·cases h
 rename_i σ2 h2
 simp only[Option.some.injEq,Prod.mk.injEq] at h
 obtain⟨rfl,rfl⟩:=h
 obtain⟨hlen,hfin,hrec⟩:=Jec ops.toList 0 σ σ1 recs h1
 simp only[Je2,Bool.and_eq_true] at hord
 obtain⟨hedge,hall⟩:=hord
 have hneed:=Jfc hn
 have before:∀i j ri rj,i<j→recs[i]? =some ri→recs[j]? =some rj→JaR ri rj=true→((Jiy ops.toList 0 []).getD j 0).testBit i=true:=fun i j ri rj hij hi hj hc=>by
  have:=Jc2 hall j rj hj i ri (by omega) hi hc
  simpa using this
 refine wp_region_any hm ?_
 have I1:Inv B N w0 γ (look σ) a {w with drawn:=w.drawn+1}:=by
  refine⟨I.size,I.defers,I.slot,fun κ e he=>Ent.at_keep (w:=w) (Nat.le_refl _) (fun _ _=>rfl) (I.ent κ e he),fun κ e κ' e' h1 h2 h3 h4 b hb=> ?_,I.below.trans ⟨rfl,rfl,rfl,Nat.le_refl _,fun _ _ _=>rfl⟩,I.top,I.cell1,I.fixed⟩
  intro hft
  exact I.apart κ e κ' e' h1 h2 h3 h4 b hb ((Ent.foot_keep (w:=w) (w':={w with drawn:=w.drawn+1}) (fun _ _ _=>rfl) b).1 hft)
 have main :∀(fuel:Nat) (listed:Array Bool) (a:Act) (w:World),listed.size=ops.size→listed.toList.count false≤fuel→
   (∀j o,ops.toList[j]? =some o→listed.getD j false=true→∀e∈o.after,Region.binds .any e=true→listed.getD e.on false=true)→
   (∃γ,Inv B N w0 γ (stD recs (look σ) (fun i=>listed.getD i false) recs.length) a w)→wpAny P .any ops Q fuel listed a w:=by
  intro fuel
  have done:∀(listed:Array Bool) (a:Act) (w:World),listed.size=ops.size→
    (∀i,i<ops.size→listed.getD i false=true)→(∃γ,Inv B N w0 γ (stD recs (look σ) (fun i=>listed.getD i false) recs.length) a w)→Q .normal a w:=by
   intro listed a w hs hl ⟨γ,I⟩
   refine hQ γ a w (I.weaken fun l c hc=> ?_)
   have:=YD h2 l c hc
   rw[hfin] at this
   rw[←this]
   refine JdN recs (look σ) recs.length fun i r hi _ _=>hl i ?_
   rw[hlen] at hi
   simpa using hi
  have some_ready:∀(listed:Array Bool),listed.size=ops.size→Region.ready .any ops listed=[]→∀i,i<ops.size→listed.getD i false=true:=by
   intro listed hs hr i
   induction i using Nat.strongRecOn with
   | _ i ih=>
    intro hi
    cases hli:listed.getD i false with
    |true=>rfl
    | false=>
     exfalso
     have hmem:i∈Region.ready .any ops listed:=by
      refine mem_ready.2 ⟨?_,ops[i],by simp[hi],fun e he hb=> ?_⟩
      ·have:i<listed.size:=by omega
       simp[this] at hli ⊢
       exact hli
      ·have hlt:e.on<0+i:=Qy hedge i ops[i] (by simp[hi]) e he hb
       exact ih e.on (by omega) (by omega)
     rw[hr] at hmem
     cases hmem
  have step:∀(listed:Array Bool) (a:Act) (w:World) (K:Act→World→Prop),listed.size=ops.size→
    (∀j o,ops.toList[j]? =some o→listed.getD j false=true→∀e∈o.after,Region.binds .any e=true→listed.getD e.on false=true)→
    (∃γ,Inv B N w0 γ (stD recs (look σ) (fun i=>listed.getD i false) recs.length) a w)→∀k∈Region.ready .any ops listed,
    (∀a' w',(∃γ,Inv B N w0 γ (stD recs (look σ) (fun i=>(listed.setIfInBounds k true).getD i false) recs.length) a' w')→K a' w')→wpOp P ops Q k K a w:=by
   intro listed a w K hs hcl ⟨γ,I⟩ k hk hK
   obtain⟨hun,o,ho,hdeps⟩:=mem_ready.1 hk
   have ho':ops.toList[k]? =some o:=by simpa using ho
   have hklt:k<ops.size:=(Array.getElem?_eq_some_iff.1 ho).1
   obtain⟨r,σm,hr,hσm,hin,hpre,R⟩:=hrec k o ho'
   have hkr:k<recs.length:=(List.getElem?_eq_some_iff.1 hr).1
   have hDk:listed.getD k false=false:=by
    have:k<listed.size:=by omega
    simp[this] at hun ⊢
    exact hun
   have rop:r.o=o:=R.op
   have anc:∀i,((Jiy ops.toList 0 []).getD k 0).testBit i=true→listed.getD i false=true:=
    Jc8 (D:=fun i=>listed.getD i false) hcl hedge k o ho' hdeps
   have later:∀i ri,recs[i]? =some ri→k<i→JaR r ri=true→listed.getD i false=false:=fun i ri hri hki hc=>by
    have hb:=before k i r ri hki hr hri hc
    cases hli:listed.getD i false with
    |false=>rfl
    |true=>
     have hil:i<ops.toList.length:=by rw[←hlen];exact(List.getElem?_eq_some_iff.1 hri).1
     have hoi:ops.toList[i]? =some ops.toList[i]:=List.getElem?_eq_getElem hil
     have:=Jc8 (D:=fun i=>listed.getD i false) hcl hedge i _ hoi (hcl i _ hoi hli) k hb
     rw[hDk] at this
     cases this
   have Jau:∀i ri,recs[i]? =some ri→i<k→JaR ri r=true→listed.getD i false=true:=fun i ri hri hik hc=>anc i (before i k ri r hik hri hr hc)
   have wtOk:∀(i:Nat) (ri:Rec),recs[i]? =some ri→ri.wt=JlN ri.o ri.eff:=fun i ri hri=>by
    have hil:i<ops.toList.length:=by rw[←hlen];exact(List.getElem?_eq_some_iff.1 hri).1
    obtain⟨r',_,g1,_,_,_,g5⟩:=hrec i _ (List.getElem?_eq_getElem hil)
    rw[hri] at g1
    cases g1
    rw[g5.wt,g5.op]
   have agree:∀l,JeV r.rd l=true→stD recs (look σ) (fun i=>listed.getD i false) recs.length l=look σm l:=fun l hl=>by
    rw[hσm]
    have e1:stD recs (look σ) (fun i=>listed.getD i false) recs.length l=stD recs (look σ) (fun i=>listed.getD i false) k l:=by
     refine Jdr recs (look σ) recs.length (by omega) fun i ri h1 h2 h3 h4=> ?_
     by_cases hik:i=k
     ·subst hik;exact hDk
     ·exact later i ri h3 (by omega) (Jaz (.inr ⟨VK (wtOk i ri h3) h4,hl⟩))
    rw[e1]
    exact JdN recs (look σ) k fun i ri h1 h2 h3=>Jau i ri h2 h1 (Jaz (.inl ⟨VK (wtOk i ri h2) h3,.inl hl⟩))
   have after:applyE r.o.dst r.eff (stD recs (look σ) (fun i=>listed.getD i false) recs.length)=stD recs (look σ) (fun i=>(listed.setIfInBounds k true).getD i false) recs.length:=by
    funext l
    have hset:∀i,i≠k→(listed.setIfInBounds k true).getD i false=listed.getD i false:=fun i hi=>by simp[Array.getElem?_setIfInBounds_ne (Ne.symm hi)]
    have hsetk:(listed.setIfInBounds k true).getD k false=true:=by
     have:k<listed.size:=by omega
     simp[this]
    by_cases hw:JgZ r l
    ·have e1:stD recs (look σ) (fun i=>(listed.setIfInBounds k true).getD i false) recs.length l=stD recs (look σ) (fun i=>(listed.setIfInBounds k true).getD i false) (k+1) l:=by
      refine Jdr recs (look σ) recs.length (by omega) fun i ri h1 h2 h3 h4=> ?_
      rw[hset i (by omega)]
      exact later i ri h3 (by omega) (Jaz (.inl ⟨VK (by rw[R.wt,rop]) hw,.inr (VK (wtOk i ri h3) h4)⟩))
     rw[e1]
     simp only[stD,hr,hsetk,if_true]
     exact Je4 hw
    ·have e1:applyE r.o.dst r.eff (stD recs (look σ) (fun i=>listed.getD i false) recs.length) l=stD recs (look σ) (fun i=>listed.getD i false) recs.length l:=
      JbN (fun d hd e=>hw (.inl ⟨d,hd,e⟩)) (fun p hp e=>hw (.inr ⟨p,hp,e⟩))
     rw[e1]
     refine JdN recs (look σ) recs.length fun i ri h1 h2 h3=> ?_
     by_cases hik:i=k
     ·subst hik;rw[hr] at h2;cases h2;exact absurd h3 hw
     ·exact(hset i hik).symm
   have rdE:=R.rd
   have hwant:Jeb (ops.toList.map (·.dst)) (stD recs (look σ) (fun i=>listed.getD i false) recs.length) o.guard=some r.want:=by
    rw[←R.want]
    refine JeZ fun j b d hg hd=>agree _ ?_
    unfold JeV
    rw[rdE]
    simp only[JjZ,testBit_or,Bool.or_eq_true]
    right;right;right;left
    rw[hg]
    simp only[hd]
    exact(Jdh d _).2 rfl
   have hw':=JaW I hwant
   simp only[Array.toArray_toList] at hw'
   unfold wpOp
   simp only[ho,hw']
   have fin:∀v w',Post B N w0 (stD recs (look σ) (fun i=>listed.getD i false) recs.length) a r.eff v w'→K (a.put o.dst v) w':=fun v w' hp=>by
    obtain⟨γ',I'⟩:=Inv.applyE R.dst hp
    refine hK _ _ ⟨γ',?_⟩
    rw[←after,rop]
    exact I'
   cases hwv:r.want with
   |false=>
    simp only[Bool.false_eq_true,if_false]
    have he:=R.no hwv
    exact fin undef w ⟨γ,by rw[he];rfl,by rw[he];intro x hx;simp at hx,by rw[he];exact I⟩
   | true =>
    simp only[if_true]
    obtain⟨hf,he,hwh⟩:=R.yes hwv
    refine .inl (JbY ?_)
    have hslot:∀x∈o.op.operands,Jg (stD recs (look σ) (fun i=>listed.getD i false) recs.length) x=Jg (look σm) x:=fun x hx=>JfA fun t ht=>agree _ (by
     unfold JeV
     rw[rdE]
     simp only[JjZ,testBit_or,Bool.or_eq_true]
     right;left
     refine Qc.2 ⟨Jnj x,by simp only[List.mem_map];exact⟨x,by simpa using hx,rfl⟩,?_⟩
     subst ht
     exact(Jdh t _).2 rfl)
    have hkey:∀x∈o.op.operands,∀v,Jg (look σm) x=some v→∀κ∈v.keys,Jh (stD recs (look σ) (fun i=>listed.getD i false) recs.length) κ=Jh (look σm) κ:=fun x hx v hv κ hκ=>JbS (agree _ (by
     unfold JeV
     rw[rdE]
     simp only[JjZ,testBit_or,Bool.or_eq_true]
     right;right;left
     refine Qc.2 ⟨Jk8 (look σm) x,by simp only[List.mem_map];exact⟨x,by simpa using hx,rfl⟩,?_⟩
     cases x with
     |tmp t=>
      have hv':Jaj (look σm) t=some v:=hv
      simp only[Jk8,hv']
      exact Qc.2 ⟨JeU κ,by simp only[List.mem_map];exact⟨κ,hκ,rfl⟩,(JaH _ _).2 rfl⟩
     |const c=>
      simp only[Jg,JcV] at hv
      split at hv<;>first|(simp only [Option.some.injEq] at hv;subst hv;simp[SV.keys,V1.keys,V1.keys.lk] at hκ)|cases hv
     |func f=>simp only[Jg,Option.some.injEq] at hv;subst hv;simp[SV.keys,V1.keys,V1.keys.lk] at hκ
     |global g=>cases hv))
    have hhint:∀κ∈Jbo r.hint,Jh (stD recs (look σ) (fun i=>listed.getD i false) recs.length) κ=Jh (look σm) κ:=fun κ hκ=>JbS (agree _ (by
     unfold JeV
     rw[rdE]
     simp only[JjZ,testBit_or,Bool.or_eq_true]
     left
     exact Qc.2 ⟨JeU κ,by simp only[List.mem_map];exact⟨κ,hκ,rfl⟩,(JaH _ _).2 rfl⟩))
    have he':JaQ P T (stD recs (look σ) (fun i=>listed.getD i false) recs.length) r.hint o.op=some r.eff:=by rw[JeW hslot hkey hhint];exact he
    have nk:∀κ,(Yb κ σm&&Nat.blt κ 9000)=true→JeV r.wt (.h κ)=true→NoKey κ (stD recs (look σ) (fun i=>listed.getD i false) recs.length):=fun κ hnk0 hwk=>by
     have hnk1:=hnk0
     simp only[Bool.and_eq_true,Nat.blt_eq] at hnk1
     obtain⟨hnk,hlt9⟩:=hnk1
     have bad:∀l c,stD recs (look σ) (fun i=>listed.getD i false) recs.length l=some c→l≠ .h κ∧κ∉c.keys:=fun l c hc=>by
      rcases Jdf recs.length hc with h0|⟨i,ri,g1,g2,g3,g4⟩
      ·exact XO hnk l c (hin _ (JbB h0))
      ·have hik:i≠k:=fun e=>by subst e;rw[hDk] at g3;cases g3
       rcases Nat.lt_or_ge i k with hlt|hge
       ·exact XO hnk l c (hpre i ri hlt g2 _ g4)
       ·have hil:i<ops.toList.length:=by rw[←hlen];exact(List.getElem?_eq_some_iff.1 g2).1
        obtain⟨r',σi,q1,_,_,_,q5⟩:=hrec i _ (List.getElem?_eq_getElem hil)
        rw[g2] at q1
        cases q1
        have hno:JaR r ri=true→False:=fun hc'=>by
         have:=later i ri g2 (by omega) hc'
         rw[this] at g3;cases g3
        refine⟨fun e=> ?_,fun hk'=> ?_⟩
        ·refine hno (Jaz (.inl ⟨hwk,.inr (VK (wtOk i ri g2) ?_)⟩))
         subst e
         unfold WV at g4
         cases hd:ri.o.dst with
         |none=>
          rw[hd] at g4
          simp only[List.mem_map] at g4
          obtain⟨p,hp,he⟩:=g4
          exact .inr ⟨p,hp,by cases he;rfl⟩
         | some d=>
          rw[hd] at g4
          rcases List.mem_cons.1 g4 with he|g4
          ·cases he
          ·simp only[List.mem_map] at g4
           obtain⟨p,hp,he⟩:=g4
           exact .inr ⟨p,hp,by cases he;rfl⟩
        ·exact hno (Jaz (.inl ⟨hwk,.inl (Jfr (by rw[q5.rd,q5.op]) g4 hk')⟩))
     refine⟨?_,fun l c hc=>(bad l c hc).2,hlt9⟩
     cases hl:stD recs (look σ) (fun i=>listed.getD i false) recs.length (.h κ) with
     |none=>rfl
     |some c=>exact absurd rfl (bad _ _ hl).1
    have hfresh:Jd5 r.hint (stD recs (look σ) (fun i=>listed.getD i false) recs.length):=by
     cases hh:r.hint with
     |key κ=>
      rw[hh] at hf hwh
      refine nk κ hf (VK (by rw[R.wt,rop]) (.inr ?_))
      obtain⟨p,hp,hpe⟩:=List.any_eq_true.1 hwh
      exact⟨p,hp,by rw[Nat.eq_of_beq_eq_true hpe]⟩
     |dk κ eb=>
      rw[hh] at hf hwh
      refine nk κ hf (VK (by rw[R.wt,rop]) (.inr ?_))
      obtain⟨p,hp,hpe⟩:=List.any_eq_true.1 hwh
      exact⟨p,hp,by rw[Nat.eq_of_beq_eq_true hpe]⟩
     |lk κ=>
      rw[hh] at hf hwh
      refine nk κ hf (VK (by rw[R.wt,rop]) (.inr ?_))
      obtain⟨p,hp,hpe⟩:=List.any_eq_true.1 hwh
      exact⟨p,hp,by rw[Nat.eq_of_beq_eq_true hpe]⟩
     | call ks res news=>
      rw[hh] at hf hwh
      intro p hp
      have hfp:=List.all_eq_true.1 hf p hp
      rw[Bool.or_eq_true] at hfp
      rcases hfp with hfp|hfp
      ·left
       refine nk p.1 hfp (VK (by rw[R.wt,rop]) (.inr ?_))
       obtain⟨q,hq,hqe⟩:=List.any_eq_true.1 (List.all_eq_true.1 hwh p hp)
       exact⟨q,hq,by rw[Nat.eq_of_beq_eq_true hqe]⟩
      ·exact .inr hfp
     |oi ns=>
      rw[hh] at hf hwh
      simp only[Xj,Bool.and_eq_true] at hf
      refine⟨fun κ' hκ'=>nk κ' (List.all_eq_true.1 hf.1 κ' hκ') (VK (by rw[R.wt,rop]) (.inr ?_)),Vn hf.2⟩
      obtain⟨q,hq,hqe⟩:=List.any_eq_true.1 (List.all_eq_true.1 hwh κ' hκ')
      exact⟨q,hq,by rw[Nat.eq_of_beq_eq_true hqe]⟩
     |of ns=>
      rw[hh] at hf hwh
      simp only[Xj,Bool.and_eq_true] at hf
      refine⟨fun κ' hκ'=>nk κ' (List.all_eq_true.1 hf.1 κ' hκ') (VK (by rw[R.wt,rop]) (.inr ?_)),Vn hf.2⟩
      obtain⟨q,hq,hqe⟩:=List.any_eq_true.1 (List.all_eq_true.1 hwh κ' hκ')
      exact⟨q,hq,by rw[Nat.eq_of_beq_eq_true hqe]⟩
     |bb ns=>
      rw[hh] at hf hwh
      simp only[Xj,Bool.and_eq_true] at hf
      refine⟨fun κ' hκ'=>nk κ' (List.all_eq_true.1 hf.1 κ' hκ') (VK (by rw[R.wt,rop]) (.inr ?_)),Vn hf.2⟩
      obtain⟨q,hq,hqe⟩:=List.any_eq_true.1 (List.all_eq_true.1 hwh κ' hκ')
      exact⟨q,hq,by rw[Nat.eq_of_beq_eq_true hqe]⟩
     |gk ks=>
      rw[hh] at hf hwh
      simp only[Xj,Bool.and_eq_true] at hf
      refine⟨fun κ' hκ'=>nk κ' (List.all_eq_true.1 hf.1 κ' hκ') (VK (by rw[R.wt,rop]) (.inr ?_)),Vn hf.2⟩
      obtain⟨q,hq,hqe⟩:=List.any_eq_true.1 (List.all_eq_true.1 hwh κ' hκ')
      exact⟨q,hq,by rw[Nat.eq_of_beq_eq_true hqe]⟩
     |arW κ ns=>
      rw[hh] at hf hwh
      simp only[Xj,Bool.and_eq_true] at hf
      refine⟨fun κ' hκ'=>nk κ' (List.all_eq_true.1 hf.1 κ' hκ') (VK (by rw[R.wt,rop]) (.inr ?_)),Vn hf.2⟩
      obtain⟨q,hq,hqe⟩:=List.any_eq_true.1 (List.all_eq_true.1 hwh κ' hκ')
      exact⟨q,hq,by rw[Nat.eq_of_beq_eq_true hqe]⟩
     |ar κ ns=>
      rw[hh] at hf hwh
      simp only[Xj,Bool.and_eq_true] at hf
      refine⟨fun κ' hκ'=>nk κ' (List.all_eq_true.1 hf.1 κ' hκ') (VK (by rw[R.wt,rop]) (.inr ?_)),Vn hf.2⟩
      obtain⟨q,hq,hqe⟩:=List.any_eq_true.1 (List.all_eq_true.1 hwh κ' hκ')
      exact⟨q,hq,by rw[Nat.eq_of_beq_eq_true hqe]⟩
     | arN κ ns=>
      rw[hh] at hf hwh
      simp only[Xj] at hf
      rw[Bool.and_eq_true] at hf
      have go:∀κ'∈κ::ns,NoKey κ' (stD recs (look σ) (fun i=>listed.getD i false) recs.length):=fun κ' hκ'=>by
       refine nk κ' (List.all_eq_true.1 hf.1 κ' hκ') (VK (by rw[R.wt,rop]) (.inr ?_))
       obtain⟨q,hq,hqe⟩:=List.any_eq_true.1 (List.all_eq_true.1 hwh κ' hκ')
       exact⟨q,hq,by rw[Nat.eq_of_beq_eq_true hqe]⟩
      exact⟨go κ (by simp),fun κ' hκ'=>go κ' (by simp[hκ']),Vn hf.2⟩
     | callA ks res news=>
      rw[hh] at hf hwh
      intro p hp
      have hfp:=List.all_eq_true.1 hf p hp
      rw[Bool.or_eq_true] at hfp
      rcases hfp with hfp|hfp
      ·left
       refine nk p.1 hfp (VK (by rw[R.wt,rop]) (.inr ?_))
       obtain⟨q,hq,hqe⟩:=List.any_eq_true.1 (List.all_eq_true.1 hwh p hp)
       exact⟨q,hq,by rw[Nat.eq_of_beq_eq_true hqe]⟩
      ·exact .inr hfp
     |_=>trivial
    have:=Jc6 hT I hfresh he' (hneed r (List.mem_of_getElem? hr))
    exact this.mono fun v w' hp=>fin v w' hp
  induction fuel with
  | zero=>
   intro listed a w hs hc hcl hI
   have hl:∀i,i<ops.size→listed.getD i false=true:=fun i hi=>by
    cases hli:listed.getD i false with
    |true=>rfl
    |false=>
     exfalso
     have:i<listed.size:=by omega
     simp[this] at hli
     have hmem:false∈listed.toList:=by rw[←hli];simp
     have:=List.count_pos_iff.2 hmem
     omega
   refine⟨?_,done listed a w hs hl hI⟩
   cases hr:Region.ready .any ops listed with
   |nil=>rfl
   |cons x r=>
    exfalso
    obtain⟨hun,o,ho,_⟩:=mem_ready.1 (show x∈Region.ready .any ops listed by rw[hr];simp)
    have hx:=hl x (Array.getElem?_eq_some_iff.1 ho).1
    have:x<listed.size:=by rw[hs];exact(Array.getElem?_eq_some_iff.1 ho).1
    simp[this] at hun hx
    rw[hun] at hx
    cases hx
  | succ fuel ih=>
   intro listed a w hs hc hcl hI
   refine⟨fun hr=>done listed a w hs (some_ready listed hs hr) hI,fun k hk=>step listed a w _ hs hcl hI k hk fun a' w' hI'=> ?_⟩
   obtain⟨hun,o,ho,hdeps⟩:=mem_ready.1 hk
   have hklt:k<ops.size:=(Array.getElem?_eq_some_iff.1 ho).1
   refine ih _ a' w' (by simpa using hs) ?_ ?_ hI'
   ·have hkl:k<listed.size:=by omega
    have:listed.toList[k]? =some false:=by
     simp[hkl] at hun
     simp[hkl,hun]
    have:=JiC listed.toList k this
    simp only[Array.toList_setIfInBounds]
    omega
   ·intro j oj hj hl e he hb
    by_cases hjk:j=k
    ·subst hjk
     have:oj=o:=by
      have:ops[j]? =some oj:=by simpa using hj
      rw[ho] at this
      cases this;rfl
     subst this
     have hd:=hdeps e he hb
     by_cases hek:e.on=j
     ·rw[hek]
      have hkl:j<listed.size:=by omega
      simp[hkl]
     ·rw[show (listed.setIfInBounds j true).getD e.on false=listed.getD e.on false by simp[Array.getElem?_setIfInBounds_ne (Ne.symm hek)]]
      exact hd
    ·have hl':listed.getD j false=true:=by
      rw[show (listed.setIfInBounds k true).getD j false=listed.getD j false by simp[Array.getElem?_setIfInBounds_ne (Ne.symm hjk)]] at hl
      exact hl
     have hd:=hcl j oj hj hl' e he hb
     by_cases hek:e.on=k
     ·rw[hek]
      have hkl:k<listed.size:=by omega
      simp[hkl]
     ·rw[show (listed.setIfInBounds k true).getD e.on false=listed.getD e.on false by simp[Array.getElem?_setIfInBounds_ne (Ne.symm hek)]]
      exact hd
 refine main ops.size (Array.replicate ops.size false) a _ (by simp) (by simp) (fun j o _ hl=> ?_) ⟨γ,?_⟩
 ·exfalso
  rcases Nat.lt_or_ge j ops.size with h'|h'<;>simp[h'] at hl
 ·have e0:stD recs (look σ) (fun i=>(Array.replicate ops.size false).getD i false) recs.length=look σ:=by
   funext l
   have:=Jdr recs (look σ) (D:=fun i=>(Array.replicate ops.size false).getD i false) (l:=l) (k:=0) recs.length (by omega) fun i r _ _ _ _=>by
    rcases Nat.lt_or_ge i ops.size with h'|h'<;>simp[h']
   rw[this]
   rfl
  rw[e0]
  exact I1
end Go.Gw

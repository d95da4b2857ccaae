/- The walk's engine, part 5: stores, literals; the whole step. -/
import Derived.Test.YtdbheiibkpendaaGreatDoorGw4
namespace Go.Gw
open Go.RowKit
variable {P:Program} {T:TypeId→Option TD} {B:Nat→Prop} {N:Nat} {w0:W0} {γ:Nat→Value} {σ:Stt} {a:Act} {w:World}
theorem Jhy (I:Inv B N w0 γ σ a w) {t:TypeId} {κ:Nat} {e:TypeId} {k:IntKind} {l:List Int} {i v:Int} (hd:(TD.int k).ok P t) (hk:σ (.h κ)=some (.e (.own e k l))) (h0:0≤i) (h1:i<l.length):
  ∃w',(Instr.storeAt t (JM (γ κ) i.toNat) (.int k v)).run P w= .ok () w'∧Inv B N w0 γ (Wl σ [(κ,.own e k (l.set i.toNat v))]) a w':=by
 obtain⟨⟨q1,q2⟩,hB⟩:=I.ent κ _ hk
 have hlt:i.toNat<l.length:=by omega
 rcases q2 with⟨_,h0'⟩|⟨g,cap,cur,hv,_,hg,hnc,hcm,hcs,htake⟩
 ·simp at h0';simp[h0'] at hlt
 ·have hcl:i.toNat<cur.toList.length:=by simp;omega
  have hsplit:cur=((cur.toList.take i.toNat)++([cur.toList[i.toNat]]++cur.toList.drop (i.toNat+1))).toArray:=by
   have:=List.getElem_cons_drop (as:=cur.toList) (i:=i.toNat) hcl
   simp only[List.singleton_append,this,List.take_append_drop,Array.toArray_toList]
  have hset:(cur.toList.take i.toNat)++([Value.int k v]++cur.toList.drop (i.toNat+1))=cur.toList.set i.toNat (.int k v):=by
   rw[List.set_eq_take_append_cons_drop,if_pos hcl];rfl
  have hg':=hg
  rw[hsplit] at hg'
  have:=XV (P:=P) (w:=w) (t:=t) (off:=i.toNat) (v:= .int k v) hg' (by simp;omega) (by exact Jbi hd w) rfl (by simp[Value.cells,Value.oneCell'])
  refine⟨_,?_,I.turn (b:=g) (e':= .own e k (l.set i.toNat v)) (w':=w.setRow g (cur.toList.set i.toNat (.int k v)).toArray) hk rfl (by simp[hv,Jw]) ⟨rfl,rfl,rfl,by simp,fun k' _ hn=>setRow_other w g k' _ hn⟩ ?_ ?_⟩
  ·rw[hv]
   simp only[JM,Jn,Nat.zero_add,Instr.storeAt,Instr.sureAddr,Sem.run_bind,Sem.run_pure,Result.andThen_ok]
   rw[this]
   simp only[Value.cells]
   rw[hset]
  ·refine⟨⟨by simp,.inr ⟨g,cap,_,by simpa using hv,Nat.zero_le _,setRow_heap w g cur _ e _ hg,by simpa using hnc,hcm,by simpa using hcs,?_⟩⟩,fun b hb=>by simp[hv,Jw] at hb;exact hb.symm⟩
   simp only[List.length_set,Nat.mul_one] at htake ⊢
   rw[List.take_set,htake,List.map_set]
  ·intro k' hk'
   simp[Ent.foot,hv,Jw] at hk'
   exact hk'.symm
theorem Jhd (hT:TOk P T) (I:Inv B N w0 γ σ a w) {t:TypeId} {u v:SV} {eff:Eff} (hu:u.ok) (hv:v.ok) (h:JcO T (Jh σ) t u v=some eff) (hn:eff.need):
  ∃w',eff.val=none∧(Instr.storeAt t (u.den γ) (v.den γ)).run P w= .ok () w'∧Inv B N w0 γ (Wl σ eff.wr) a w':=by
 unfold JcO at h
 split at h
 ·rename_i κ off m
  have agg:∀(ty:TypeId) (ls:List Leaf) (d:TD) (n:Nat),Jh σ κ=some (.blk ty ls)→T t=some d→d.sz=n→
    ∀pre r mid post m1,YU ls off=some (pre,r)→YU r n=some (mid,post)→YU m n=some (m1,[])→
    ∃w',(Instr.storeAt t ((SV.v (.one (.ptr κ off))).den γ) ((SV.v (.agg m)).den γ)).run P w= .ok () w'∧Inv B N w0 γ (Wl σ [(κ,.blk ty (pre++(m++post)))]) a w':=by
   intro ty ls d n hk hd hn pre r mid post m1 h1 h2 h3
   obtain⟨hk',b,hb,hB,hg,hok⟩:=I.key hk
   obtain⟨e1,e2⟩:=Xg _ _ _ _ h1
   obtain⟨e3,e4⟩:=Xg _ _ _ _ h2
   obtain⟨e5,e6⟩:=Xg _ _ _ _ h3
   rw[List.append_nil] at e5
   subst e5;subst e3;subst e1
   have okp:∀x∈pre,x.ok:=fun x hx=>hok x (by simp[hx])
   have okd:∀x∈mid,x.ok:=fun x hx=>hok x (by simp[hx])
   have okz:∀x∈post,x.ok:=fun x hx=>hok x (by simp[hx])
   have okm:∀x∈m,x.ok:=hv
   have hbk:bk γ κ=b:=by simp[bk,hb]
   rw[JF,JF] at hg
   have:=XV (P:=P) (w:=w) (t:=t) (off:=off) (v:= .agg (Jq γ m).toArray) hg (by rw[Vq okp,e2]) (by rw[Vq okd,e4,←hn];exact Jbi (hT t d hd) w)
    (by simp[Value.cells,Vq okm,Vq okd,e4,e6]) (by simpa[Value.cells] using Jhi I.cell1 m)
   refine⟨_,?_,I.store hk' hb (l':=pre++(m++post)) (by
    intro x hx
    simp only[List.mem_append] at hx
    rcases hx with hx|hx|hx
    ·exact okp x hx
    ·exact okm x hx
    ·exact okz x hx)⟩
   simp only[SV.den,V1.den,Leaf.cells,List.headD_cons,hbk,Instr.storeAt,Instr.sureAddr,Sem.run_bind,Sem.run_pure,Result.andThen_ok,JF]
   simpa[Value.cells] using this
  split at h
  ·rename_i ty ls n e k hk hd
   split at h
   ·rename_i pre r h1
    split at h
    ·rename_i mid post m1 h2 h3
     simp only[Option.some.injEq] at h
     subst h
     obtain⟨w',h4,h5⟩:=agg ty ls _ n hk hd rfl pre r mid post m1 h1 h2 h3
     exact⟨w',rfl,h4,h5⟩
    ·cases h
   ·cases h
  ·rename_i ty ls n e k hk hd
   split at h
   ·rename_i pre r h1
    split at h
    ·rename_i mid post m1 h2 h3
     simp only[Option.some.injEq] at h
     subst h
     obtain⟨w',h4,h5⟩:=agg ty ls _ n hk hd rfl pre r mid post m1 h1 h2 h3
     exact⟨w',rfl,h4,h5⟩
    ·cases h
   ·cases h
  ·cases h
 ·rename_i κ off yy
  split at h
  ·cases h
  ·cases h
  ·cases h
  ·rename_i ty ls d hna hns hng hk hd
   split at h
   ·cases h
   ·cases h
   ·rename_i yy _ _ x hxa hx hya
    simp only[Option.some.injEq] at h
    subst h
    have hA:d.isA=false:=by cases d<;>first|rfl|(exfalso;first|exact hna _ _ _ _ rfl|exact hns _ _ _ _ rfl|exact hna _ _ _ _ _ rfl rfl|exact hns _ _ _ rfl|exact hna _ _ _ rfl|exact hns _ _ _ _ _ rfl rfl|exact hng _ _ _ _ rfl|exact hng _ _ _ _ _ _ rfl rfl)
    have hsz:d.sz=1:=by cases d<;>first|rfl|(simp [TD.isA] at hA)
    obtain⟨hk',b,hb,hB,hg,hok⟩:=I.key hk
    obtain⟨p,r,e1,e2,e3⟩:=WX ls off x hx
    have hxl:x.lone:=by cases x<;>first|trivial|exact(hxa _ _ _ rfl).elim
    have hyl:yy.lone:=hv.2
    subst e1
    have okp:∀x∈p,x.ok:=fun x hx=>hok x (by simp[hx])
    have hbk:bk γ κ=b:=by simp[bk,hb]
    rw[JF,JP] at hg
    have hc:=Va (QC I.cell1 hyl)
    have:=XV (P:=P) (w:=w) (t:=t) (off:=off) (v:=(yy.cells γ).headD undef) hg (by rw[Vq okp,e2]) (by rw[WB hxl];show _=Result.ok 1 w;rw[←hsz];exact Jbi (hT t d hd) w)
     (by rw[hc,WB hxl];rfl) (by rw[hc];simpa using QC I.cell1 hyl)
    refine⟨_,rfl,?_,I.store hk' hb (l':=Yw (p++x::r) off yy) (by
     intro z hz
     rw[e3 yy] at hz
     simp only[List.mem_append,List.mem_cons] at hz
     rcases hz with hz|rfl|hz
     ·exact okp z hz
     ·exact hv.1
     ·exact hok z (by simp[hz]))⟩
    rw[e3 yy,JF,JP]
    have e9:(SV.v (V1.one (Leaf.ptr κ off))).den γ= .pointer (some ⟨b,off,none⟩):=by rw[←hbk];rfl
    show (Instr.storeAt t _ ((yy.cells γ).headD undef)).run P w=_
    rw[e9]
    simp only[Instr.storeAt,Instr.sureAddr,Sem.run_bind,Sem.run_pure,Result.andThen_ok]
    rw[this,hc]
    conv=>rhs;rw[WB hyl]
   ·cases h
  ·cases h
 ·rename_i κ base n i k v
  split at h
  ·rename_i ty ls k2 hk hd
   split at h
   ·rename_i k' n' l h1
    cases hc:(keq k k'&&Nat.beq n n'&&keq k k2) with
    |false=>simp[hc] at h
    | true=>
     simp only[hc,cond_true,Option.some.injEq] at h
     subst h
     simp only[Bool.and_eq_true] at hc
     obtain rfl:=WF hc.1.1
     obtain rfl:=Nat.eq_of_beq_eq_true hc.1.2
     obtain⟨hk',b,hb,hB,hg,hok⟩:=I.key hk
     obtain⟨p,r,e1,e2,e3⟩:=WX ls base _ h1
     subst e1
     have okp:∀x∈p,x.ok:=fun x hx=>hok x (by simp[hx])
     have hl:l.length=n:=hok (.arr k n l) (by simp)
     obtain⟨⟨hi0,hi1⟩,_⟩:(0≤i∧i<n)∧True:=hu
     have hlt:i.toNat<l.length:=by omega
     have hbk:bk γ κ=b:=by simp[bk,hb]
     have hsplit:Jq γ (p++Leaf.arr k n l::r)=(Jq γ p++(l.take i.toNat).map (Value.int k))++([Value.int k (l.getD i.toNat 0)]++((l.drop (i.toNat+1)).map (Value.int k)++Jq γ r)):=by
      rw[JF,JP]
      have:l=l.take i.toNat++([l.getD i.toNat 0]++l.drop (i.toNat+1)):=by
       have:=List.getElem_cons_drop (as:=l) (i:=i.toNat) hlt
       simp only[List.getD,List.getElem?_eq_getElem hlt,Option.getD_some,List.singleton_append,this,List.take_append_drop]
      simp only[Leaf.cells]
      conv=>lhs;rw[this]
      simp
     have hset:Jq γ (p++Leaf.arr k n (l.set i.toNat v)::r)=(Jq γ p++(l.take i.toNat).map (Value.int k))++([Value.int k v]++((l.drop (i.toNat+1)).map (Value.int k)++Jq γ r)):=by
      rw[JF,JP]
      have:l.set i.toNat v=l.take i.toNat++([v]++l.drop (i.toNat+1)):=by
       rw[List.set_eq_take_append_cons_drop,if_pos hlt];rfl
      simp only[Leaf.cells,this]
      simp
     rw[hsplit] at hg
     have:=XV (P:=P) (w:=w) (t:=t) (off:=base+i.toNat) (v:= .int k v) hg (by simp[Vq okp,e2];omega) (by exact Jbi (hT t _ hd) w) rfl (by simp[Value.cells,Value.oneCell'])
     refine⟨_,rfl,?_,I.store hk' hb (l':=Yw (p++ .arr k n l::r) base (.arr k n (l.set i.toNat v))) (by
      intro z hz
      rw[e3] at hz
      simp only[List.mem_append,List.mem_cons] at hz
      rcases hz with hz|rfl|hz
      ·exact okp z hz
      ·simpa[Leaf.ok] using hl
      ·exact hok z (by simp[hz]))⟩
     rw[e3,hset]
     simp only[SV.den,V1.den,Leaf.cells,List.headD_cons,hbk,Instr.storeAt,Instr.sureAddr,Sem.run_bind,Sem.run_pure,Result.andThen_ok]
     simpa[Value.cells] using this
   ·cases h
  ·cases h
 ·rename_i κ sz i off k v
  split at h
  ·rename_i e k' l k2 hk hd
   cases hc:(keq k k'&&keq k k2&&Nat.beq sz 1&&Nat.beq off 0) with
   |false=>simp[hc] at h
   |true=>
    simp only[hc,cond_true,Option.some.injEq] at h
    subst h
    simp only[Bool.and_eq_true] at hc
    obtain rfl:=WF hc.1.1.1
    obtain rfl:=WF hc.1.1.2
    obtain rfl:=Nat.eq_of_beq_eq_true hc.1.2
    obtain rfl:=Nat.eq_of_beq_eq_true hc.2
    obtain⟨hi0,_⟩:0≤i∧True:=hu
    obtain⟨w',h1,h2⟩:=Jhy (P:=P) (t:=t) (v:=v) I (hT t _ hd) (I.key hk).1 hi0 hn
    refine⟨w',rfl,?_,h2⟩
    simpa[SV.den,V1.den,Leaf.cells] using h1
  ·cases h
 ·cases h
theorem JfJ (off:Nat):∀(vs A M Z:List Value) (j:Nat),A.length=off+j→M.length=vs.length→
  ((vs.zipIdx j).foldl (fun(cs:Array Value) (p:Value×Nat)=>cs.setIfInBounds (off+p.2) p.1) (A++(M++Z)).toArray)=(A++(vs++Z)).toArray
 |[],A,M,Z,j,hA,hM=>by
  have:M=[]:=List.length_eq_zero_iff.1 (by simpa using hM)
  simp[this]
 |v::vs,A,[],Z,j,hA,hM=>by simp at hM
 | v::vs,A,m::M,Z,j,hA,hM=>by
  have ih:=JfJ off vs (A++[v]) M Z (j+1) (by simp;omega) (by simpa using hM)
  simp only[List.zipIdx_cons,List.foldl_cons]
  have:(A++(m::M++Z)).toArray.setIfInBounds (off+j) v=(A++[v]++(M++Z)).toArray:=by
   rw[←hA]
   simp
  rw[this,ih]
  simp
theorem XI (place:Nat→Option (Nat×Nat)) {i off sz:Nat} (hp:place i=some (off,sz)) (v:Value) (A M Z:List Value) (rest:List (Nat×Value)) (hA:A.length=off) (hM:M.length=sz) (hv:v.cells.size=sz):
  Instr.fill place (A++(M++Z)).toArray ((i,v)::rest)=Instr.fill place (A++(v.cells.toList++Z)).toArray rest:=by
 have hf:=JfJ off v.cells.toList A M Z 0 (by omega) (by simp;omega)
 simp only[Instr.fill,hp]
 have h2:¬(off+v.cells.size>(A++(M++Z)).toArray.size):=by simp;omega
 rw[if_neg (by simp[hv];simp at h2;omega)]
 congr 1
 rw[←hf,←Array.foldl_toList]
 simp
theorem Jb8 (I:Inv B N w0 γ σ a w) {k:IntKind} (n:Nat):∀(ps:List (Nat×Operand)) (acc l:List Int),acc.length=n→(∀p∈ps,p.1<n)→JaT k ps (Jg σ) acc=some l→
  Instr.fill (fun i=>some (i*1,1)) (acc.map (Value.int k)).toArray (ps.map fun p=>(p.1,a.eval p.2))=some (l.map (Value.int k)).toArray∧l.length=n
 |[],acc,l,ha,_,h=>by
  simp only[JaT,Option.some.injEq] at h
  subst h
  exact⟨rfl,ha⟩
 | (i,x)::r,acc,l,ha,hp,h=>by
  simp only[JaT] at h
  split at h
  ·rename_i k' m hx
   cases hc:keq k k' with
   |false=>simp[hc] at h
   | true=>
    simp only[hc,cond_true] at h
    obtain rfl:=WF hc
    have hi:i<acc.length:=by have:=hp (i,x) (by simp);omega
    obtain⟨h1,h2⟩:=Jb8 I n r (acc.set i m) l (by simpa using ha) (fun p hp'=>hp p (by simp[hp'])) h
    refine⟨?_,h2⟩
    have e:a.eval x= .int k m:=(I.eval hx).1
    simp only[List.map_cons,e]
    have hs:acc.map (Value.int k)=(acc.take i).map (Value.int k)++([Value.int k (acc.getD i 0)]++(acc.drop (i+1)).map (Value.int k)):=by
     have e1:acc=acc.take i++(acc.getD i 0::acc.drop (i+1)):=by
      have:=List.getElem_cons_drop (as:=acc) (i:=i) hi
      simp only[List.getD,List.getElem?_eq_getElem hi,Option.getD_some,this,List.take_append_drop]
     have e2:=congrArg (List.map (Value.int k)) e1
     rw[List.map_append,List.map_cons] at e2
     exact e2
    have ht:(acc.set i m).map (Value.int k)=(acc.take i).map (Value.int k)++([Value.int k m]++(acc.drop (i+1)).map (Value.int k)):=by
     rw[List.set_eq_take_append_cons_drop,if_pos hi];simp
    rw[hs,XI (fun i=>some (i*1,1)) (off:=i*1) (sz:=1) rfl (.int k m) _ _ _ _ (by simp;omega) rfl rfl]
    rw[ht] at h1
    simpa[Value.cells] using h1
  ·cases h
end Go.Gw

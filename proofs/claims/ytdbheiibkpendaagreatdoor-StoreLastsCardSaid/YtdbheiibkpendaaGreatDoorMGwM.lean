/- Errors: told by their numbers. -/
import Derived.Test.YtdbheiibkpendaaGreatDoorGwK
import Derived.Stop.IfaceNil
namespace Go.Gw
open Go.RowKit Go.MapKept
variable {P:Program} {T:TypeId→Option TD} {B:Nat→Prop} {N:Nat} {w0:W0} {γ:Nat→Value} {σ σ':Stt} {a:Act} {w:World}
theorem ErrAt.val {v:Value} {tp ts te:TypeId} {n:Int} (h:ErrAt B w v tp ts te n):(n=0∧v= .nilIface)∨(n≠0∧∃u x,v= .iface u x):=by
 rcases h with h|⟨h,b,s,f,hv,_⟩
 ·exact .inl h
 ·exact .inr ⟨h,_,_,hv⟩
theorem JbN (op:BinOp) (t:TypeId) (x:Operand) (v:Value):(eqGuard op t x (.const .nilIface) v .nilIface).run P w= .ok () w:=by
 cases v<;>first
  |(rw [eqGuard_nil_constR];rfl)
  |(unfold eqGuard;split<;>rfl)
theorem Jjn (hT:TOk P T) (I:Inv B N w0 γ σ a w) {o:Oper} {eff:Eff} (h:eiS T σ o.op=some eff):RunOk P (execOp a.eval o) w (Post B N w0 σ a eff):=by
 obtain⟨dst,op,ty,pos,after,guard⟩:=o
 simp only at h
 cases op with
 | makeInterface t x=>
  simp only[eiS] at h
  split at h
  ·rename_i k k' n hd hx
   cases hkk:keq k k' with
   |false=>simp[hkk] at h
   | true=>
    obtain rfl:=WL hkk
    simp only[hkk,cond_true,Jy,Option.some.injEq] at h
    subst h
    have ex:a.eval x= .int k n:=(I.eval hx).1
    have hr:(Instr.makeInterface t (a.eval x)).run P w= .ok (.iface t (.int k n)) w:=by
     rw[ex];simp[Instr.makeInterface,run_underlying (hT _ _ hd).1]
    exact Jn hr ⟨γ,rfl,⟨trivial,trivial⟩,I⟩
  ·cases h
 | binOp op t x y t'=>
  cases y with
  | const c=>
   cases c with
   | nilIface=>
    have ey:a.eval (.const .nilIface)= .nilIface:=rfl
    simp only[eiS] at h
    split at h
    ·rename_i κ hd hx
     have hi:P.isIface t=true:=by obtain⟨ms,hu,_⟩:=hT _ _ hd;simp[Program.isIface,hu]
     have ex:a.eval x=γ κ:=(I.eval hx).1
     split at h
     ·rename_i tp ts te n hk
      simp only[Jy,Option.some.injEq] at h
      subst h
      have hr:(do eqGuard .eql t x (.const .nilIface) (a.eval x) (a.eval (.const .nilIface));binOp .eql t (a.eval x) (a.eval (.const .nilIface)):Sem Value).run P w= .ok (.bool (decide (n=0))) w:=by
       rw[ex,ey]
       simp only[Sem.run_bind,JbN,Result.andThen_ok]
       rcases ErrAt.val (I.key hk).2 with⟨hn,hv⟩|⟨hn,u,z,hv⟩
       ·rw[hv,run_eql_nil_nil_at w t hi];simp[hn]
       ·rw[hv,run_eql_iface_nil w t hi];simp[hn]
      exact Jn hr ⟨γ,rfl,⟨trivial,trivial⟩,I⟩
     ·rename_i tp ts te n hk
      simp only[Jy,Option.some.injEq] at h
      subst h
      have hr:(do eqGuard .neq t x (.const .nilIface) (a.eval x) (a.eval (.const .nilIface));binOp .neq t (a.eval x) (a.eval (.const .nilIface)):Sem Value).run P w= .ok (.bool (!decide (n=0))) w:=by
       rw[ex,ey]
       simp only[Sem.run_bind,JbN,Result.andThen_ok]
       rcases ErrAt.val (I.key hk).2 with⟨hn,hv⟩|⟨hn,u,z,hv⟩
       ·rw[hv,run_neq_nil_nil_at w t hi];simp[hn]
       ·rw[hv,run_neq_iface_nil w t hi];simp[hn]
      exact Jn hr ⟨γ,rfl,⟨trivial,trivial⟩,I⟩
     ·cases h
    ·rename_i hd hx
     have hi:P.isIface t=true:=by obtain⟨ms,hu,_⟩:=hT _ _ hd;simp[Program.isIface,hu]
     have ex:a.eval x= .nilIface:=(I.eval hx).1
     split at h
     ·simp only[Jy,Option.some.injEq] at h
      subst h
      have hr:(do eqGuard .eql t x (.const .nilIface) (a.eval x) (a.eval (.const .nilIface));binOp .eql t (a.eval x) (a.eval (.const .nilIface)):Sem Value).run P w= .ok (.bool true) w:=by
       rw[ex,ey]
       simp only[Sem.run_bind,JbN,Result.andThen_ok]
       rw[run_eql_nil_nil_at w t hi]
      exact Jn hr ⟨γ,rfl,⟨trivial,trivial⟩,I⟩
     ·simp only[Jy,Option.some.injEq] at h
      subst h
      have hr:(do eqGuard .neq t x (.const .nilIface) (a.eval x) (a.eval (.const .nilIface));binOp .neq t (a.eval x) (a.eval (.const .nilIface)):Sem Value).run P w= .ok (.bool false) w:=by
       rw[ex,ey]
       simp only[Sem.run_bind,JbN,Result.andThen_ok]
       rw[run_neq_nil_nil_at w t hi]
      exact Jn hr ⟨γ,rfl,⟨trivial,trivial⟩,I⟩
     ·cases h
    ·cases h
   |_=>cases h
  |_=>cases h
 |_=>cases h
theorem Jib {op:Op} (hs:∀x∈op.operands,Jg σ' x=Jg σ x)
  (hk:∀x∈op.operands,∀v,Jg σ x=some v→∀κ∈v.keys,Jh σ' κ=Jh σ κ):eiS T σ' op=eiS T σ op:=by
 cases op with
 |makeInterface t x=>
  simp only[eiS]
  rw[hs x (by simp[Op.operands])]
 | binOp op t x y t'=>
  cases y with
  | const c=>
   cases c with
   |nilIface=>
    simp only[eiS]
    rw[hs x (by simp[Op.operands])]
    split
    ·rename_i κ _ hx;rw[hk x (by simp[Op.operands]) _ hx κ (by simp[SV.keys,V1.keys,V1.keys.lk])]
    ·rfl
    ·rfl
   |_=>rfl
  |_=>rfl
 |_=>rfl
end Go.Gw
/- Slices of one's own that begin somewhere in their block. -/
namespace Go.Gw
open Go.RowKit Go.MapKept
variable {P:Program} {T:TypeId→Option TD} {B:Nat→Prop} {N:Nat} {w0:W0} {γ:Nat→Value} {σ σ':Stt} {a:Act} {w:World}
theorem OwnF.of_own {e:TypeId} {v:Value} {n:Nat} {xs:List Value} (h:w.ownsRow 0 e 1 v n xs):OwnF w e v xs:=by
 obtain⟨hl,h|⟨g,cap,cur,h1,_,h2,h3,h4,h5,h6⟩⟩:=h
 ·exact .inl ⟨h.1,List.length_eq_zero_iff.1 (by rw[hl,h.2])⟩
 ·rw[Nat.mul_one] at hl h5 h6
  subst hl
  exact .inr ⟨g,0,cap,cur,h1,h2,h3,h4,by omega,by simpa using h6⟩
theorem OwnF.cell {e:TypeId} {g off n:Nat} {cur:Array Value} {xs:List Value} (h2:w.heap[g]?=some (.cells cur e (0,0))) (h:(cur.toList.drop off).take n=xs) {j:Nat} {u:Value} (hj:xs[j]?=some u):
  w.cell? ((⟨g,off,none⟩:Addr).add j)=some u:=by
 rw[Jr,cell_of_row w g (off+j) cur e (0,0) h2]
 rw[←h] at hj
 have hjn:j<n:=by
  rcases Nat.lt_or_ge j n with q|q
  ·exact q
  ·rw[List.getElem?_eq_none (by rw[List.length_take];omega)] at hj;cases hj
 rw[List.getElem?_take_of_lt hjn,List.getElem?_drop,Array.getElem?_toList] at hj
 exact hj
theorem OwnF.rd {e:TypeId} {v:Value} {k:IntKind} {l:List Int} (h:OwnF w e v (l.map (.int k))):RdI w v k l:=by
 rcases h with⟨h1,h2⟩|⟨g,off,cap,cur,h1,h2,h3,h4,h5,h6⟩
 ·exact .inl ⟨⟨none,h1⟩,by simpa using h2⟩
 ·rw[List.length_map] at h1 h3
  refine .inr ⟨⟨g,off,none⟩,cap,h1,h3,h4,(Array.getElem?_eq_some_iff.1 h2).1,rfl,fun i hi=> ?_⟩
  exact OwnF.cell h2 h6 (by simp[List.getD,hi])
theorem JaB {t ty e:TypeId} {i:TypeInfo} (ht:P.underlying t=some (.slice e)) (hi:P.info? e=some i) (hs:i.size=1)
  {g off sLen sCap:Nat} {cur:Array Value} (hg:w.heap[g]?=some (.cells cur e (0,0)))
  {a:Addr} {m c:Nat} {news:List Value} (hl:news.length=m) (hnews:∀j u,news[j]?=some u→w.cell? (a.add j)=some u) (h1:∀u∈news,u.oneCell'=true)
  (hroom:sLen+m≤sCap) (hfit:off+sLen+news.length≤cur.size):
  (Builtin.append_ #[t,t] ty #[.slice (some ⟨g,off,none⟩) sLen sCap,.slice (some a) m c]).run P w=
   .ok (.slice (some ⟨g,off,none⟩) (sLen+m) sCap) (w.setRow g (cur.toList.take (off+sLen)++news++cur.toList.drop (off+sLen+news.length)).toArray):=by
 have hf:=run_firstCells_some (P:=P) w i.size m a m c news (by rw[hs,Nat.mul_one];exact hl) hnews
 have hst:=run_storeCells_at P g (off+sLen) e news 0 cur w hg (by simpa using hfit) h1
 simp only[Nat.add_zero] at hst
 rw[hs] at hf
 simp[Builtin.append_,run_underlying ht,sizeOf,typeInfo,hi,hs,Builtin.lenOf,hroom,hf,Jr,hst]
theorem Jj0 {α:Type} (c xs ys:List α) (off n:Nat) (hx:(c.drop off).take n=xs) (hn:xs.length=n) (hf:off+n+ys.length≤c.length):
  ((c.take (off+n)++ys++c.drop (off+n+ys.length)).drop off).take (n+ys.length)=xs++ys:=by
 have h1:c.take (off+n)=c.take off++xs:=by rw[List.take_add,hx]
 have h2:(c.take off).length=off:=by rw[List.length_take];omega
 rw[h1,List.append_assoc,List.append_assoc,List.drop_append_of_le_length (by omega),List.drop_of_length_le (Nat.le_of_eq h2),List.nil_append,←List.append_assoc,
  List.take_append_of_le_length (by rw[List.length_append];omega),List.take_of_length_le (by rw[List.length_append];omega)]
theorem JgY {d:TD} {t ty e:TypeId} (hT:d.ok P t) (hes:Yv (some d)=some (e,1)) {v y:Value} {m:Nat} {xs news:List Value} (ho:OwnF w e v xs) (hy:YAt w y m news) (hnl:news.length=m)
  (hn1:∀u∈news,u.oneCell'=true) (hlen:xs.length+m≤YJ):
  ∃v' w',(Builtin.append_ #[t,t] ty #[v,y]).run P w= .ok v' w'∧v'.oneCell'=true∧OwnF w' e v' (xs++news)∧BelowX (fun b=>w.heap.size≤b∨JB v=some b) w w'∧∀b,JB v'=some b→w.heap.size≤b∨JB v=some b:=by
 rcases ho with⟨hv,hx⟩|⟨g,off,cap,cur,hv,hg,hnc,hcm,hcs,htake⟩
 ·subst hx
  obtain⟨v',w',r1,r2,r3,r4,r5⟩:=QQ (P:=P) (ty:=ty) hT hes (n:=0) (xs:=[]) (v:=v) ⟨rfl,.inl ⟨hv,rfl⟩⟩ hy (by rw[hnl,Nat.mul_one]) hn1 (by simpa using hlen)
  refine⟨v',w',r1,r2,OwnF.of_own r3,⟨r4.os,r4.tape,r4.output,r4.size,fun b hb hn=>r4.block b hb fun e=>hn (.inr ?_)⟩,fun b hb=>(r5 b hb).symm⟩
  rw[hv] at e;cases e
 ·obtain⟨t1,i,z,hi,hisz,hz,hzs,hby,hp⟩:=XS hT hes
  rcases hy with⟨rfl,h0⟩|⟨ad,cap2,rfl,g5⟩
  ·have Jp:news=[]:=List.length_eq_zero_iff.1 (by rw[hnl,h0])
   subst Jp
   have hr:(Builtin.append_ #[t,t] ty #[v,.slice none 0 0]).run P w= .ok v w:=by
    rw[hv]
    simp[Builtin.append_,run_underlying t1,sizeOf,typeInfo,hi,Builtin.lenOf,hnc,run_firstCells_none,storeCells]
   refine⟨v,w,hr,by rw[hv];rfl,by rw[List.append_nil];exact .inr ⟨g,off,cap,cur,hv,hg,hnc,hcm,hcs,htake⟩,⟨rfl,rfl,rfl,Nat.le_refl _,fun _ _ _=>rfl⟩,fun b hb=> .inr hb⟩
  ·have hb64:∀n:Nat,n≤YJ→n*i.bytes≤140737488355328:=fun n hn=>by
    have:=Nat.mul_le_mul hn hby
    simp only[YJ] at this
    omega
   by_cases hroom:xs.length+m≤cap
   ·have hfit:off+xs.length+news.length≤cur.size:=by omega
    have hr:=JaB (P:=P) (w:=w) (ty:=ty) t1 hi hisz hg hnl g5 hn1 hroom hfit (c:=cap2)
    refine⟨_,_,by rw[hv];exact hr,rfl,.inr ⟨g,off,cap,_,?_,setRow_heap w g cur _ e _ hg,?_,hcm,?_,?_⟩,⟨rfl,rfl,rfl,by simp,fun k _ hk=>setRow_other w g k _ (fun e=>hk (.inr (by rw[hv];simp only[JB];exact congrArg some e.symm)))⟩,fun b hb=> .inr (by rw[hv];exact hb)⟩
    ·rw[List.length_append,hnl]
    ·rw[List.length_append];omega
    ·simp only[List.size_toArray,List.length_append,List.length_take,List.length_drop,Array.length_toList];omega
    ·rw[List.length_append]
     exact Jj0 cur.toList xs news off xs.length htake rfl (by rw[Array.length_toList];exact hfit)
   ·have holds:∀j u,xs[j]?=some u→w.cell? ((⟨g,off,none⟩:Addr).add j)=some u:=fun j u hj=>OwnF.cell hg htake hj
    have hmx:xs.length+m≤1099511627776:=hlen
    have hr:=run_append_grow (P:=P) w t ty e i z t1 hi hz ⟨g,off,none⟩ xs.length cap xs (by rw[hisz,Nat.mul_one]) holds ad m cap2 news (by rw[hisz,Nat.mul_one];exact hnl) g5 (by omega) (by omega) (growslice_fits (by omega) (hb64 _ hlen))
    refine⟨_,_,by rw[hv];exact hr,rfl,.inr ⟨w.heap.size,0,grownCap w (xs.length+m) cap e,_,?_,heap_alloc_new w.drew _,?_,grownCap_le_maxLen w (xs.length+m) cap e (by simp only[maxLen];omega),?_,?_⟩,⟨rfl,rfl,rfl,by simp,fun k hk _=>heap_alloc_old w.drew _ k hk⟩,fun b hb=> .inl ?_⟩
    ·rw[List.length_append,hnl]
    ·rw[List.length_append,hnl];exact grownCap_ge w _ cap e
    ·have hge:=grownCap_ge w (xs.length+m) cap e
     simp only[Array.size_append,List.size_toArray,size_zeroCells,hzs,hnl]
     omega
    ·simp only[Array.toList_append,List.append_assoc,List.drop_zero]
     rw[←List.append_assoc]
     exact List.take_left
    ·simp only[JB,Option.some.injEq] at hb;omega
theorem JbM (I:Inv B N w0 γ σ a w) {y:SV} {k:IntKind} {l:List Int} (h:Jco σ y=some (k,l)):RdI w (y.den γ) k l:=by
 unfold Jco at h
 split at h
 ·rename_i κ
  have go:∀x,σ (.h κ)=some (.e x)→x.at B γ w κ:=fun x hx=>I.ent κ x hx
  split at h
  ·rename_i k' l' hk;cases h;exact(I.key hk).2
  ·rename_i k' l' hk;cases h;exact(I.key hk).2.1
  ·rename_i e k' l' hk;cases h;exact QB (I.key hk).2.1
  ·cases h
 ·cases h
theorem JaT (I:Inv B N w0 γ σ a w) {κ:Nat} {r:TypeId×IntKind×List Int} (h:QJ σ (.v (.one (.slc κ)))=some r):σ (.h κ)=some (.e (.ownf r.1 r.2.1 r.2.2))∧OwnF w r.1 (γ κ) (r.2.2.map (.int r.2.1))∧∀b,JB (γ κ)=some b→B b:=by
 unfold QJ at h
 simp only at h
 split at h
 ·rename_i e k l hk;cases h;exact I.key hk
 ·cases h
theorem Jh8 {u:SV} {r:TypeId×IntKind×List Int} (h:QJ σ u=some r):∃κ,u= .v (.one (.slc κ)):=by
 unfold QJ at h
 split at h
 ·exact⟨_,rfl⟩
 ·cases h
theorem JfL {v:Value} {k:IntKind} {l:List Int} (h:RdI w v k l):∃ad cap,v= .slice ad l.length cap∧(0<l.length→∃a0,ad=some a0∧∀i,i<l.length→w.cell? (a0.add i)=some (.int k (l.getD i 0))):=by
 rcases h with⟨⟨o,h1⟩,h2⟩|⟨a,cap,h1,_,_,_,_,h6⟩
 ·subst h2;exact⟨o,0,h1,fun h=>by cases h⟩
 ·exact⟨some a,cap,h1,fun _=>⟨a,rfl,h6⟩⟩
theorem Jia (hT:TOk P T) (I:Inv B N w0 γ σ a w) {ns:List Nat} (hf:∀κ∈ns,NoKey κ σ) {o:Oper} {eff:Eff} (h:ofS T σ ns o.op=some eff) (hn:eff.need):RunOk P (execOp a.eval o) w (Post B N w0 σ a eff):=by
 obtain⟨dst,op,ty,pos,after,guard⟩:=o
 simp only at h
 cases op with
 | slice t x lo hi mx=>
  cases lo with
  |none=>cases h
  | some lo=>cases hi with
   |some hi=>cases h
   | none =>cases mx with
    |some mx=>cases h
    | none =>
     simp only[ofS] at h
     split at h
     ·rename_i e k κ km m κ' hd hx hlo
      cases hr:QJ σ (.v (.one (.slc κ))) with
      |none=>simp[hr] at h
      | some r=>
       simp only[hr,Option.bind_some,Option.some.injEq] at h
       subst h
       obtain⟨h0,h1⟩:0≤m∧m≤r.2.2.length:=hn
       obtain⟨hk,ho,hB⟩:=JaT I hr
       have ex:a.eval x=γ κ:=(I.eval hx).1
       have el:a.eval lo= .int km m:=(I.eval hlo).1
       obtain⟨t1,t2,t3,t4⟩:=hT _ _ hd
       have hsz:∀w,(sizeOf e).run P w= .ok 1 w:=fun w=>by
        cases hq:P.info? e with
        |none=>simp[hq] at t3
        |some i=>simp[hq] at t3;simp[sizeOf,typeInfo,hq,t3.1]
       have hlen:(r.2.2.drop m.toNat).length=r.2.2.length-m.toNat:=List.length_drop
       have hv:∃v,(Instr.sliceAt t (γ κ) (some (.int km m)) none none).run P w= .ok v w∧v.oneCell'=true∧JB v=JB (γ κ)∧OwnF w r.1 v ((r.2.2.drop m.toNat).map (.int r.2.1)):=by
        rcases ho with⟨hv,hx0⟩|⟨g,off,cap,cur,hv,hg,hnc,hcm,hcs,htk⟩
        ·have hl0:r.2.2=[]:=by simpa using hx0
         have hm:m=0:=by rw[hl0] at h1;simp at h1;omega
         subst hm
         refine⟨_,by rw[hv];exact Wf (P:=P) (ad:=none) (len:=0) (cap:=0) t1 hsz (.inr ⟨km,rfl⟩) (.inl ⟨rfl,rfl⟩) (Int.le_refl 0) (Int.le_refl 0) (Int.le_refl 0) w,rfl,by simp[hv,JB],.inl ⟨by simp,by simp[hl0]⟩⟩
        ·rw[List.length_map] at hv hnc htk
         refine⟨_,by rw[hv];exact Wf (P:=P) (ad:=some ⟨g,off,none⟩) (len:=r.2.2.length) (cap:=cap) t1 hsz (.inr ⟨km,rfl⟩) (.inl ⟨rfl,rfl⟩) h0 h1 (by omega) w,rfl,?_,.inr ⟨g,if cap=m.toNat then off else off+m.toNat,cap-m.toNat,cur,?_,hg,?_,by omega,?_,?_⟩⟩
         ·rw[hv];split
          ·rfl
          ·simp[JB,XM]
         ·rw[List.length_map,hlen]
          have:(r.2.2.length:Int).toNat=r.2.2.length:=Int.toNat_natCast _
          rw[this]
          split
          ·rfl
          ·simp[Jr]
         ·rw[List.length_map,hlen];omega
         ·split<;>omega
         ·rw[List.length_map,hlen]
          split
          ·rename_i hc
           have:r.2.2.length-m.toNat=0:=by omega
           rw[this,List.take_zero]
           have:r.2.2.drop m.toNat=[]:=List.drop_eq_nil_of_le (by omega)
           rw[this];rfl
          ·rw[List.map_drop,←htk,List.drop_take,List.drop_drop]
       obtain⟨v,r1,r2,r3,r4⟩:=hv
       have hex:execOp a.eval ⟨dst,.slice t x (some lo) none none,ty,pos,after,guard⟩=(do pure (.value (←Instr.sliceAt t (a.eval x) (some (a.eval lo)) none none))):=rfl
       rw[hex,ex,el]
       refine Jn r1 ⟨fun x=>if x=κ' then v else γ x,by simp[SV.den,V1.den,Leaf.cells],⟨trivial,trivial⟩,Xw I hk rfl (hf κ' (by simp)) r2 ⟨rfl,rfl,rfl,Nat.le_refl _,fun _ _ _=>rfl⟩ ?_ fun b hb=> ?_⟩
       ·simp only[Ent.at,if_pos]
        exact⟨r4,fun b hb=> .inr (by rw[←r3];exact hb)⟩
       ·simp only[Ent.foot,if_pos] at hb
        exact .inr (by rw[←r3];exact hb)
     ·cases h
 | indexAddr t x i=>
  simp only[ofS] at h
  split at h
  ·rename_i e k κ kj j hd hx hi
   cases hr:QJ σ (.v (.one (.slc κ))) with
   |none=>simp[hr] at h
   | some r=>
    simp only[hr,Option.bind_some,Vy,Option.some.injEq] at h
    subst h
    obtain⟨h0,h1⟩:0≤j∧j<r.2.2.length:=hn
    obtain⟨ad,cap,q1,q2⟩:=JfL (OwnF.rd (JaT I hr).2.1)
    obtain⟨a0,rfl,q3⟩:=q2 (by omega)
    obtain⟨t1,t2,t3,t4⟩:=hT _ _ hd
    have hsz:(sizeOf e).run P w= .ok 1 w:=by
     cases hq:P.info? e with
     |none=>simp[hq] at t3
     |some i=>simp[hq] at t3;simp[sizeOf,typeInfo,hq,t3.1]
    have e1:a.eval x= .slice (some a0) r.2.2.length cap:=(I.eval hx).1.trans q1
    have e2:a.eval i= .int kj j:=(I.eval hi).1
    have hrun:(Instr.indexAt t (a.eval x) (a.eval i)).run P w= .ok (JR (γ κ) (j.toNat*1+0)) w:=by
     rw[e1,e2,q1]
     simp[Instr.indexAt,asIntOf,run_underlying t1,h0,h1,hsz,JR]
    exact Jn hrun ⟨γ,rfl,⟨h0,trivial⟩,I⟩
  ·cases h
 | load t x=>
  simp only[ofS] at h
  split at h
  ·rename_i kt κ i hd hx
   cases hr:QJ σ (.v (.one (.slc κ))) with
   |none=>simp[hr] at h
   |some r=>
    simp only[hr,Option.bind_some,Vy,Option.some.injEq] at h
    subst h
    have h1:i<r.2.2.length:=hn
    have ex:=I.eval hx
    have h0:0≤i:=ex.2.1
    obtain⟨ad,cap,q1,q2⟩:=JfL (OwnF.rd (JaT I hr).2.1)
    obtain⟨a0,rfl,q3⟩:=q2 (by omega)
    have hc:=q3 i.toNat (by omega)
    have:=WN (P:=P) (t:=t) (Yi (hT t _ hd) w) hc
    refine Jn (v:= .int r.2.1 (r.2.2.getD i.toNat 0)) (w':=w) ?_ ⟨γ,rfl,⟨trivial,trivial⟩,I⟩
    rw[ex.1]
    simp only[SV.den,V1.den,Leaf.cells,List.headD_cons,q1,JR,Nat.mul_one,Nat.add_zero,Instr.loadAt,Instr.sureAddr,Sem.run_bind,Sem.run_pure,Result.andThen_ok]
    exact this
  ·cases h
 | call c =>
  obtain⟨callee,args,ts⟩:=c
  cases callee with
  | builtin b=>cases b with
   | len=>
    simp only[ofS] at h
    split at h
    ·rename_i e k u hd hx
     cases hr:QJ σ u with
     |none=>simp[hr] at h
     | some r=>
      simp only[hr,Option.bind_some,Jy,Option.some.injEq] at h
      subst h
      obtain⟨κ,rfl⟩:=Jh8 hr
      cases ht0:ts[0]? with
      |none=>simp[ht0] at hd
      |some t=>
      simp only[ht0,Option.bind_some] at hd
      cases ha0:args[0]? with
      |none=>simp[ha0] at hx
      |some x=>
      simp only[ha0,Option.bind_some] at hx
      obtain⟨ad,cap,q1,_⟩:=JfL (OwnF.rd (JaT I hr).2.1)
      obtain⟨t1,_⟩:=hT _ _ hd
      have e1:a.eval x= .slice ad r.2.2.length cap:=(I.eval hx).1.trans q1
      have hrun:(Builtin.len_ ts ty (args.map a.eval)).run P w= .ok (.int .i64 r.2.2.length) w:=by
       simp[Builtin.len_,ht0,ha0,run_underlying t1,goInt,e1]
      have hex:execOp a.eval ⟨dst,.call ⟨.builtin .len,args,ts⟩,ty,pos,after,guard⟩=(do pure (.value (←Builtin.len_ ts ty (args.map a.eval)))):=rfl
      rw[hex]
      exact Jn hrun ⟨γ,rfl,⟨trivial,trivial⟩,I⟩
    ·cases h
   | append=>
    simp only[ofS] at h
    split at h
    ·rename_i x y t t' κ' ha0 ht0
     cases htt:Nat.beq t t' with
     |false=>simp[htt] at h
     | true=>
      obtain rfl:=Nat.eq_of_beq_eq_true htt
      simp only[htt,cond_true] at h
      have ea:args= #[x,y]:=by rw[←Array.toArray_toList (xs:=args),ha0]
      have et:ts= #[t,t]:=by rw[←Array.toArray_toList (xs:=ts),ht0]
      subst ea;subst et
      split at h
      ·rename_i e k κ k2 l2 hd hx hy
       cases hr:QJ σ (.v (.one (.slc κ))) with
       |none=>simp[hr] at h
       | some r=>
        simp only[hr,Option.bind_some] at h
        cases hck:(keq k r.2.1&&keq k k2&&Nat.beq e r.1) with
        |false=>simp[hck] at h
        | true=>
         simp only[hck,cond_true,Option.some.injEq] at h
         subst h
         simp only[Bool.and_eq_true] at hck
         obtain⟨⟨c1,c2⟩,c3⟩:=hck
         have c1:=WL c1
         have c2:=WL c2
         have c3:=Nat.eq_of_beq_eq_true c3
         subst c2
         have hlen:r.2.2.length+l2.length≤YJ:=hn
         obtain⟨hk,ho,hB⟩:=JaT I hr
         cases hyv:Jg σ y with
         |none=>simp[hyv] at hy
         |some uy=>
         simp only[hyv,Option.bind_some] at hy
         have ey:=(I.eval hyv).1
         have hy':=JmK (JbM I hy)
         obtain⟨v',w',r1,r2,r3,r4,r5⟩:=JgY (P:=P) (t:=t) (ty:=ty) (hT t _ hd) (e:=e) rfl (by rw[c3];exact ho) hy' (by simp) (fun u hu=>by obtain⟨b,_,rfl⟩:=List.mem_map.1 hu;rfl) (by simpa using hlen)
         have ex:a.eval x=γ κ:=(I.eval hx).1
         have hex:execOp a.eval ⟨dst,.call ⟨.builtin .append, #[x,y], #[t,t]⟩,ty,pos,after,guard⟩=(do pure (.value (←Builtin.append_ #[t,t] ty (#[x,y].map a.eval)))):=rfl
         rw[hex]
         refine Jn (v:=v') (w':=w') (by simpa[ex,ey] using r1) ⟨fun x=>if x=κ' then v' else γ x,by simp[SV.den,V1.den,Leaf.cells],⟨trivial,trivial⟩,Xw I hk rfl (hf κ' (by simp)) r2 r4 ?_ fun b hb=> ?_⟩
         ·simp only[Ent.at,if_pos]
          refine⟨?_,r5⟩
          rw[←c1] at r3
          rw[List.map_append]
          exact r3
         ·simp only[Ent.foot,if_pos] at hb
          exact r5 b hb
      ·cases h
    ·cases h
   |_=>simp[ofS] at h
  |_=>simp[ofS] at h
 |_=>simp[ofS] at h
theorem Yf {u:SV} (h:∀κ'∈u.keys,Jh σ' κ'=Jh σ κ'):QJ σ' u=QJ σ u:=by
 unfold QJ
 split
 ·rename_i κ';rw[h κ' (by simp[SV.keys,V1.keys,V1.keys.lk])]
 ·rfl
end Go.Gw
/- Slices of one's own of records of numbers. -/
namespace Go.Gw
open Go.RowKit Go.MapKept
variable {P:Program} {T:TypeId→Option TD} {B:Nat→Prop} {N:Nat} {w0:W0} {γ:Nat→Value} {σ σ':Stt} {a:Act} {w:World}
theorem JbY:∀{ls:List Leaf},ls.all Jkd=true→Js γ ls=(ls.map JlW).map (.int .i64)
 |[],_=>rfl
 |x::r,h=>by
  simp only[List.all_cons,Bool.and_eq_true] at h
  rw[JT,JbY h.2]
  have h1:=h.1
  unfold Jkd at h1
  split at h1
  ·rfl
  ·cases h1
theorem Jf9 (I:Inv B N w0 γ σ a w) {u:SV} {r:TypeId×Nat×List Int} (h:JcT σ u=some r):∃κ,u= .v (.one (.slc κ))∧σ (.h κ)=some (.e (.owni r.1 r.2.1 r.2.2))∧w.ownsRow 0 r.1 r.2.1 (γ κ) (r.2.2.length/r.2.1) (r.2.2.map (.int .i64))∧∀b,JB (γ κ)=some b→B b:=by
 unfold JcT at h
 split at h
 ·split at h
  ·rename_i hk;cases h;exact⟨_,rfl,I.key hk⟩
  ·cases h
 ·cases h
theorem Jl4 (I:Inv B N w0 γ σ a w) {sz:Nat} {u:SV} {n:Nat} (h:Jmq σ sz u=some n):∃κ,u= .v (.one (.slc κ))∧∃ad cap,γ κ= .slice ad n cap:=by
 unfold Jmq at h
 split at h
 ·split at h
  ·rename_i e sz' l hk
   cases hs:Nat.beq sz sz' with
   |false=>simp[hs] at h
   |true=>
    obtain rfl:=Nat.eq_of_beq_eq_true hs
    simp only[hs,cond_true,Option.some.injEq] at h
    subst h
    refine⟨_,rfl,?_⟩
    rcases(I.key hk).2.1.2 with⟨q,q0⟩|⟨g,cap,cur,q,_⟩
    ·exact⟨none,0,by rw[q,q0]⟩
    ·exact⟨_,_,q⟩
  ·rename_i hk;cases h;exact⟨_,rfl,(I.key hk).2⟩
  ·cases h
 ·cases h
theorem JiO (hT:TOk P T) (I:Inv B N w0 γ σ a w) {ns:List Nat} (hf:∀κ∈ns,NoKey κ σ) {o:Oper} {eff:Eff} (h:oiS T σ ns o.op=some eff) (hn:eff.need):RunOk P (execOp a.eval o) w (Post B N w0 σ a eff):=by
 obtain⟨dst,op,ty,pos,after,guard⟩:=o
 simp only at h
 cases op with
 | buildSlice t n ps=>
  match n with
  |0=>simp[oiS] at h
  |n+2=>simp[oiS] at h
  | 1 =>
   simp only[oiS] at h
   split at h
   ·rename_i e sz x κ' hd hps
    split at h
    ·rename_i ls hx
     cases hck:(Nat.beq ls.length sz&&ls.all Jkd) with
     |false=>simp[hck] at h
     | true=>
      simp only[hck,cond_true,Option.some.injEq] at h
      subst h
      simp only[Bool.and_eq_true] at hck
      have hsz:=Nat.eq_of_beq_eq_true hck.1
      have hcl:=JbY (γ:=γ) hck.2
      obtain⟨t1,i,z,hi,hisz,hz,hzs,_,hp,hp16⟩:=Ww (hT t _ hd)
      have ex:a.eval x= .agg (Js γ ls).toArray:=(I.eval hx).1
      have hl:(Js γ ls).length=sz:=by rw[hcl];simpa using hsz
      have eps:ps= #[(0,x)]:=by rw[←Array.toArray_toList (xs:=ps),hps]
      subst eps
      have hr:(Instr.buildSlice t 1 ((#[(0,x)]:Array (Nat×Operand)).map fun p=>(p.1,a.eval p.2))).run P w= .ok (.slice (some ⟨w.heap.size,0,none⟩) 1 1) (w.alloc (.cells (Js γ ls).toArray e)):=by
       have h24:¬(1*sz>2^24):=by omega
       have hz':∀w,(zeroValue e).run P w= .ok z w:=fun w=>by simp[zeroValue,typeInfo,hi,hz]
       have hs':∀w,(sizeOf e).run P w= .ok sz w:=fun w=>by simp[sizeOf,typeInfo,hi,hisz]
       have hf1:Instr.fill (fun i=>some (i*sz,sz)) ((Array.range (1*sz)).map (z.cells[·%z.cells.size]!)) [(0,a.eval x)]=some (Js γ ls).toArray:=by
        have:=XU (fun i=>some (i*sz,sz)) (i:=0) (off:=0) (sz:=sz) (by simp) (a.eval x) [] ((Array.range (1*sz)).map (z.cells[·%z.cells.size]!)).toList [] [] rfl (by simp) (by rw[ex];simpa[Value.cells] using hl)
        simp only[List.append_nil,List.nil_append,Array.toArray_toList] at this
        rw[this]
        simp[Instr.fill,ex,Value.cells]
       unfold Instr.buildSlice
       simp only[Sem.run_bind,run_underlying t1,Result.andThen_ok,hs',if_neg h24,if_neg (show ¬1*sz=0 by omega),hz',Sem.run_pure,List.map_toArray,List.map_cons,List.map_nil,hf1]
       simp[newRow]
      have hlen1:(ls.map JlW).length/sz=1:=by rw[List.length_map,hsz];exact Nat.div_self hp
      refine Jn hr ⟨fun x=>if x=κ' then .slice (some ⟨w.heap.size,0,none⟩) 1 1 else γ x,by simp[SV.den,V1.den,Leaf.cells],⟨trivial,trivial⟩,I.fresh (hf κ' (by simp)) rfl ⟨rfl,rfl,rfl,by simp,fun b hb _=>heap_alloc_old w _ b hb⟩ ?_ ?_⟩
      ·simp only[Ent.at,if_pos]
       refine⟨?_,fun b hb=> ?_⟩
       ·rw[hlen1,←hcl]
        exact World.ownsRow_lit (base:=0) (e:=e) (size:=sz) w (Js γ ls).toArray 1 (Nat.zero_le _) (by simp[maxLen]) (by simpa using hl)
       ·simp only[JB,Option.some.injEq] at hb;omega
      ·intro b hb
       simp only[Ent.foot,if_pos,JB,Option.some.injEq] at hb
       omega
    ·cases h
   ·cases h
 | call c =>
  obtain⟨callee,args,ts⟩:=c
  cases callee with
  | builtin b=>cases b with
   | len=>
    simp only[oiS] at h
    split at h
    ·rename_i e sz u hd hx
     cases hr:Jmq σ sz u with
     |none=>simp[hr] at h
     | some n=>
      simp only[hr,Option.bind_some,Jy,Option.some.injEq] at h
      subst h
      obtain⟨κ,rfl,ad,cap,q1⟩:=Jl4 I hr
      cases ht0:ts[0]? with
      |none=>simp[ht0] at hd
      |some t=>
      simp only[ht0,Option.bind_some] at hd
      cases ha0:args[0]? with
      |none=>simp[ha0] at hx
      |some x=>
      simp only[ha0,Option.bind_some] at hx
      obtain⟨t1,_⟩:=Ww (hT t _ hd)
      have e1:a.eval x= .slice ad n cap:=(I.eval hx).1.trans q1
      have hrun:(Builtin.len_ ts ty (args.map a.eval)).run P w= .ok (.int .i64 (n:Int)) w:=by
       simp[Builtin.len_,ht0,ha0,run_underlying t1,goInt,e1]
      have hex:execOp a.eval ⟨dst,.call ⟨.builtin .len,args,ts⟩,ty,pos,after,guard⟩=(do pure (.value (←Builtin.len_ ts ty (args.map a.eval)))):=rfl
      rw[hex]
      exact Jn hrun ⟨γ,rfl,⟨trivial,trivial⟩,I⟩
    ·cases h
   | append=>
    simp only[oiS] at h
    split at h
    ·rename_i x y t t' κ' ha0 ht0
     cases htt:Nat.beq t t' with
     |false=>simp[htt] at h
     | true=>
      obtain rfl:=Nat.eq_of_beq_eq_true htt
      simp only[htt,cond_true] at h
      have ea:args= #[x,y]:=by rw[←Array.toArray_toList (xs:=args),ha0]
      have et:ts= #[t,t]:=by rw[←Array.toArray_toList (xs:=ts),ht0]
      subst ea;subst et
      split at h
      ·rename_i e sz κ r2 hd hx hy
       cases hr:JcT σ (.v (.one (.slc κ))) with
       |none=>simp[hr] at h
       | some r=>
        simp only[hr,Option.bind_some] at h
        cases hck:(Nat.beq e r.1&&Nat.beq sz r.2.1&&Nat.beq sz r2.2.1) with
        |false=>simp[hck] at h
        | true=>
         simp only[hck,cond_true,Option.some.injEq] at h
         subst h
         simp only[Bool.and_eq_true] at hck
         have c1:=Nat.eq_of_beq_eq_true hck.1.1
         have c2:=Nat.eq_of_beq_eq_true hck.1.2
         have c3:=Nat.eq_of_beq_eq_true hck.2
         have hlen:r.2.2.length/sz+r2.2.2.length/sz≤YJ:=hn
         obtain⟨κ0,hκ0,hk,ho,hB⟩:=Jf9 I hr
         cases hκ0
         cases hyv:Jg σ y with
         |none=>simp[hyv] at hy
         |some uy=>
         simp only[hyv,Option.bind_some] at hy
         obtain⟨κ2,rfl,_,ho2,_⟩:=Jf9 I hy
         have ey:a.eval y=γ κ2:=(I.eval hyv).1
         have ex:a.eval x=γ κ:=(I.eval hx).1
         rw[←c1,←c2] at ho
         rw[←c3] at ho2
         obtain⟨t1,i,z,hi,hisz,hz,hzs,_,hp,hp16⟩:=Ww (hT t _ hd)
         have hl1:r.2.2.length=r.2.2.length/sz*sz:=by simpa using ho.1
         have hl2:r2.2.2.length=r2.2.2.length/sz*sz:=by simpa using ho2.1
         have hsum:(r.2.2++r2.2.2).length/sz=r.2.2.length/sz+r2.2.2.length/sz:=by
          rw[List.length_append,hl1,hl2,←Nat.add_mul,Nat.mul_div_cancel _ hp,Nat.mul_div_cancel _ hp,Nat.mul_div_cancel _ hp]
         obtain⟨v',w',r1,r2',r3,r4,r5⟩:=QQ (P:=P) (t:=t) (ty:=ty) (hT t _ hd) rfl ho (JmL ho2) (by simpa using hl2) (fun u hu=>by obtain⟨b,_,rfl⟩:=List.mem_map.1 hu;rfl) hlen
         have obk:(γ κ).ownBlock=JB (γ κ):=(QU ho).2
         have hex:execOp a.eval ⟨dst,.call ⟨.builtin .append, #[x,y], #[t,t]⟩,ty,pos,after,guard⟩=(do pure (.value (←Builtin.append_ #[t,t] ty (#[x,y].map a.eval)))):=rfl
         rw[hex]
         have r5':∀b,JB v'=some b→w.heap.size≤b∨JB (γ κ)=some b:=fun b hb=>(r5 b hb).symm
         refine Jn (v:=v') (w':=w') (by simpa[ex,ey] using r1) ⟨fun x=>if x=κ' then v' else γ x,by simp[SV.den,V1.den,Leaf.cells],⟨trivial,trivial⟩,Xw I hk rfl (hf κ' (by simp)) r2' ?_ ?_ fun b hb=> ?_⟩
         ·exact⟨r4.os,r4.tape,r4.output,r4.size,fun b hb hn=>r4.block b hb fun e=>hn (.inr (by rw[←obk];exact e.symm))⟩
         ·simp only[Ent.at,if_pos]
          refine⟨?_,r5'⟩
          rw[hsum,List.map_append]
          exact r3
         ·simp only[Ent.foot,if_pos] at hb
          exact r5' b hb
      ·cases h
    ·cases h
   |_=>simp[oiS] at h
  |_=>simp[oiS] at h
 |_=>simp[oiS] at h
theorem Jca {u:SV} (h:∀κ'∈u.keys,Jh σ' κ'=Jh σ κ'):JcT σ' u=JcT σ u:=by
 unfold JcT
 split
 ·rename_i κ';rw[h κ' (by simp[SV.keys,V1.keys,V1.keys.lk])]
 ·rfl
theorem Jhk {sz:Nat} {u:SV} (h:∀κ'∈u.keys,Jh σ' κ'=Jh σ κ'):Jmq σ' sz u=Jmq σ sz u:=by
 unfold Jmq
 split
 ·rename_i κ';rw[h κ' (by simp[SV.keys,V1.keys,V1.keys.lk])]
 ·rfl
theorem Jjx {ns:List Nat} {op:Op} (hs:∀x∈op.operands,Jg σ' x=Jg σ x)
  (hk:∀x∈op.operands,∀v,Jg σ x=some v→∀κ∈v.keys,Jh σ' κ=Jh σ κ):oiS T σ' ns op=oiS T σ ns op:=by
 cases op with
 | buildSlice t n ps=>
  match n with
  |0=>rfl
  |n+2=>rfl
  | 1=>
   simp only[oiS]
   split
   ·rename_i x κ' _ hps
    have hx:x∈(Op.buildSlice t 1 ps).operands:=by
     have:ps= #[(0,x)]:=by rw[←Array.toArray_toList (xs:=ps),hps]
     subst this
     simp[Op.operands]
    rw[hs x hx]
   ·rfl
 | call c=>
  obtain⟨callee,args,ts⟩:=c
  cases callee with
  | builtin b=>cases b with
   | len=>
    have e:(args[0]?).bind (Jg σ')=(args[0]?).bind (Jg σ):=by
     cases hx:args[0]? with
     |none=>rfl
     |some x=>exact hs x (by simp only[Op.operands,Call.operands,Array.mem_append];exact .inr (Array.mem_of_getElem? hx))
    simp only[oiS]
    rw[e]
    split
    ·rename_i u _ hx
     cases hx0:args[0]? with
     |none=>simp[hx0] at hx
     |some x=>
      simp only[hx0,Option.bind_some] at hx
      rw[Jhk (hk x (by simp only[Op.operands,Call.operands,Array.mem_append];exact .inr (Array.mem_of_getElem? hx0)) u hx)]
    ·rfl
   | append=>
    simp only[oiS]
    split
    ·rename_i x y t t' κ' ha _
     have hx:x∈(Op.call ⟨.builtin .append,args,ts⟩).operands:=by simp only[Op.operands,Call.operands,Array.mem_append];exact .inr (by rw[←Array.mem_toList_iff,ha];simp)
     have hy:y∈(Op.call ⟨.builtin .append,args,ts⟩).operands:=by simp only[Op.operands,Call.operands,Array.mem_append];exact .inr (by rw[←Array.mem_toList_iff,ha];simp)
     rw[hs x hx,hs y hy]
     have ek:(Jg σ y).bind (JcT σ')=(Jg σ y).bind (JcT σ):=by
      cases hv:Jg σ y with
      |none=>rfl
      |some u=>exact Jca (hk y hy u hv)
     rw[ek]
     cases Nat.beq t t' with
     |false=>rfl
     | true=>
      simp only[cond_true]
      split
      ·rename_i hu _
       rw[Jca (hk x hx _ hu)]
      ·rfl
    ·rfl
   |_=>rfl
  |_=>rfl
 |_=>rfl
end Go.Gw

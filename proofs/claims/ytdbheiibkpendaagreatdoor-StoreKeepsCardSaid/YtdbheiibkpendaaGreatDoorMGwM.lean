/- Errors: told by their numbers. -/
import Derived.Test.YtdbheiibkpendaaGreatDoorGwK
import Derived.Stop.IfaceNil
namespace Go.Gw
open Go.RowKit Go.MapKept
variable {P:Program} {T:TypeId→Option TD} {B:Nat→Prop} {N:Nat} {w0:W0} {γ:Nat→Value} {σ σ':Stt} {a:Act} {w:World}
theorem ErrAt.val {v:Value} {tp ts te:TypeId} {n:Int} (h:ErrAt B w v tp ts te n):(n=0∧v= .nilIface)∨(n≠0∧∃u x,v= .iface u x):=by
 rcases h with h|⟨h,b,s,f,hv,_⟩
 ·exact .inl h
 ·exact .inr ⟨h,_,_,hv⟩
theorem JbJ (op:BinOp) (t:TypeId) (x:Operand) (v:Value):(eqGuard op t x (.const .nilIface) v .nilIface).run P w= .ok () w:=by
 cases v<;>first
  |(rw [eqGuard_nil_constR];rfl)
  |(unfold eqGuard;split<;>rfl)
theorem JhT (hT:TOk P T) (I:Inv B N w0 γ σ a w) {o:Oper} {eff:Eff} (h:eiS T σ o.op=some eff):RunOk P (execOp a.eval o) w (Post B N w0 σ a eff):=by
 obtain⟨dst,op,ty,pos,after,guard⟩:=o
 simp only at h
 cases op with
 | makeInterface t x=>
  simp only[eiS] at h
  split at h
  ·rename_i k k' n hd hx
   cases hkk:keq k k' with
   |false=>simp[hkk] at h
   | true=>
    obtain rfl:=WF hkk
    simp only[hkk,cond_true,Ju,Option.some.injEq] at h
    subst h
    have ex:a.eval x= .int k n:=(I.eval hx).1
    have hr:(Instr.makeInterface t (a.eval x)).run P w= .ok (.iface t (.int k n)) w:=by
     rw[ex];simp[Instr.makeInterface,run_underlying (hT _ _ hd).1]
    exact Jm hr ⟨γ,rfl,⟨trivial,trivial⟩,I⟩
  ·cases h
 | binOp op t x y t'=>
  cases y with
  | const c=>
   cases c with
   | nilIface=>
    have ey:a.eval (.const .nilIface)= .nilIface:=rfl
    simp only[eiS] at h
    split at h
    ·rename_i κ hd hx
     have hi:P.isIface t=true:=by obtain⟨ms,hu,_⟩:=hT _ _ hd;simp[Program.isIface,hu]
     have ex:a.eval x=γ κ:=(I.eval hx).1
     split at h
     ·rename_i tp ts te n hk
      simp only[Ju,Option.some.injEq] at h
      subst h
      have hr:(do eqGuard .eql t x (.const .nilIface) (a.eval x) (a.eval (.const .nilIface));binOp .eql t (a.eval x) (a.eval (.const .nilIface)):Sem Value).run P w= .ok (.bool (decide (n=0))) w:=by
       rw[ex,ey]
       simp only[Sem.run_bind,JbJ,Result.andThen_ok]
       rcases ErrAt.val (I.key hk).2 with⟨hn,hv⟩|⟨hn,u,z,hv⟩
       ·rw[hv,run_eql_nil_nil_at w t hi];simp[hn]
       ·rw[hv,run_eql_iface_nil w t hi];simp[hn]
      exact Jm hr ⟨γ,rfl,⟨trivial,trivial⟩,I⟩
     ·rename_i tp ts te n hk
      simp only[Ju,Option.some.injEq] at h
      subst h
      have hr:(do eqGuard .neq t x (.const .nilIface) (a.eval x) (a.eval (.const .nilIface));binOp .neq t (a.eval x) (a.eval (.const .nilIface)):Sem Value).run P w= .ok (.bool (!decide (n=0))) w:=by
       rw[ex,ey]
       simp only[Sem.run_bind,JbJ,Result.andThen_ok]
       rcases ErrAt.val (I.key hk).2 with⟨hn,hv⟩|⟨hn,u,z,hv⟩
       ·rw[hv,run_neq_nil_nil_at w t hi];simp[hn]
       ·rw[hv,run_neq_iface_nil w t hi];simp[hn]
      exact Jm hr ⟨γ,rfl,⟨trivial,trivial⟩,I⟩
     ·cases h
    ·rename_i hd hx
     have hi:P.isIface t=true:=by obtain⟨ms,hu,_⟩:=hT _ _ hd;simp[Program.isIface,hu]
     have ex:a.eval x= .nilIface:=(I.eval hx).1
     split at h
     ·simp only[Ju,Option.some.injEq] at h
      subst h
      have hr:(do eqGuard .eql t x (.const .nilIface) (a.eval x) (a.eval (.const .nilIface));binOp .eql t (a.eval x) (a.eval (.const .nilIface)):Sem Value).run P w= .ok (.bool true) w:=by
       rw[ex,ey]
       simp only[Sem.run_bind,JbJ,Result.andThen_ok]
       rw[run_eql_nil_nil_at w t hi]
      exact Jm hr ⟨γ,rfl,⟨trivial,trivial⟩,I⟩
     ·simp only[Ju,Option.some.injEq] at h
      subst h
      have hr:(do eqGuard .neq t x (.const .nilIface) (a.eval x) (a.eval (.const .nilIface));binOp .neq t (a.eval x) (a.eval (.const .nilIface)):Sem Value).run P w= .ok (.bool false) w:=by
       rw[ex,ey]
       simp only[Sem.run_bind,JbJ,Result.andThen_ok]
       rw[run_neq_nil_nil_at w t hi]
      exact Jm hr ⟨γ,rfl,⟨trivial,trivial⟩,I⟩
     ·cases h
    ·cases h
   |_=>cases h
  |_=>cases h
 |_=>cases h
theorem JhE {op:Op} (hs:∀x∈op.operands,Jg σ' x=Jg σ x)
  (hk:∀x∈op.operands,∀v,Jg σ x=some v→∀κ∈v.keys,Jh σ' κ=Jh σ κ):eiS T σ' op=eiS T σ op:=by
 cases op with
 |makeInterface t x=>
  simp only[eiS]
  rw[hs x (by simp[Op.operands])]
 | binOp op t x y t'=>
  cases y with
  | const c=>
   cases c with
   |nilIface=>
    simp only[eiS]
    rw[hs x (by simp[Op.operands])]
    split
    ·rename_i κ _ hx;rw[hk x (by simp[Op.operands]) _ hx κ (by simp[SV.keys,V1.keys,V1.keys.lk])]
    ·rfl
    ·rfl
   |_=>rfl
  |_=>rfl
 |_=>rfl
end Go.Gw
/- Slices of one's own that begin somewhere in their block. -/
namespace Go.Gw
open Go.RowKit Go.MapKept
variable {P:Program} {T:TypeId→Option TD} {B:Nat→Prop} {N:Nat} {w0:W0} {γ:Nat→Value} {σ σ':Stt} {a:Act} {w:World}
theorem OwnF.of_own {e:TypeId} {v:Value} {n:Nat} {xs:List Value} (h:w.ownsRow 0 e 1 v n xs):OwnF w e v xs:=by
 obtain⟨hl,h|⟨g,cap,cur,h1,_,h2,h3,h4,h5,h6⟩⟩:=h
 ·exact .inl ⟨h.1,List.length_eq_zero_iff.1 (by rw[hl,h.2])⟩
 ·rw[Nat.mul_one] at hl h5 h6
  subst hl
  exact .inr ⟨g,0,cap,cur,h1,h2,h3,h4,by omega,by simpa using h6⟩
theorem OwnF.cell {e:TypeId} {g off n:Nat} {cur:Array Value} {xs:List Value} (h2:w.heap[g]? =some (.cells cur e (0,0))) (h:(cur.toList.drop off).take n=xs) {j:Nat} {u:Value} (hj:xs[j]? =some u):
  w.cell? ((⟨g,off,none⟩:Addr).add j)=some u:=by
 rw[Jn,cell_of_row w g (off+j) cur e (0,0) h2]
 rw[←h] at hj
 have hjn:j<n:=by
  rcases Nat.lt_or_ge j n with q|q
  ·exact q
  ·rw[List.getElem?_eq_none (by rw[List.length_take];omega)] at hj;cases hj
 rw[List.getElem?_take_of_lt hjn,List.getElem?_drop,Array.getElem?_toList] at hj
 exact hj
theorem OwnF.rd {e:TypeId} {v:Value} {k:IntKind} {l:List Int} (h:OwnF w e v (l.map (.int k))):RdI w v k l:=by
 rcases h with⟨h1,h2⟩|⟨g,off,cap,cur,h1,h2,h3,h4,h5,h6⟩
 ·exact .inl ⟨⟨none,h1⟩,by simpa using h2⟩
 ·rw[List.length_map] at h1 h3
  refine .inr ⟨⟨g,off,none⟩,cap,h1,h3,h4,(Array.getElem?_eq_some_iff.1 h2).1,rfl,fun i hi=> ?_⟩
  exact OwnF.cell h2 h6 (by simp[List.getD,hi])
theorem Jak {t ty e:TypeId} {i:TypeInfo} (ht:P.underlying t=some (.slice e)) (hi:P.info? e=some i) (hs:i.size=1)
  {g off sLen sCap:Nat} {cur:Array Value} (hg:w.heap[g]? =some (.cells cur e (0,0)))
  {a:Addr} {m c:Nat} {news:List Value} (hl:news.length=m) (hnews:∀j u,news[j]? =some u→w.cell? (a.add j)=some u) (h1:∀u∈news,u.oneCell'=true)
  (hroom:sLen+m≤sCap) (hfit:off+sLen+news.length≤cur.size):
  (Builtin.append_ #[t,t] ty #[.slice (some ⟨g,off,none⟩) sLen sCap,.slice (some a) m c]).run P w=
   .ok (.slice (some ⟨g,off,none⟩) (sLen+m) sCap) (w.setRow g (cur.toList.take (off+sLen)++news++cur.toList.drop (off+sLen+news.length)).toArray):=by
 have hf:=run_firstCells_some (P:=P) w i.size m a m c news (by rw[hs,Nat.mul_one];exact hl) hnews
 have hst:=run_storeCells_at P g (off+sLen) e news 0 cur w hg (by simpa using hfit) h1
 simp only[Nat.add_zero] at hst
 rw[hs] at hf
 simp[Builtin.append_,run_underlying ht,sizeOf,typeInfo,hi,hs,Builtin.lenOf,hroom,hf,Jn,hst]
theorem Jjn {α:Type} (c xs ys:List α) (off n:Nat) (hx:(c.drop off).take n=xs) (hn:xs.length=n) (hf:off+n+ys.length≤c.length):
  ((c.take (off+n)++ys++c.drop (off+n+ys.length)).drop off).take (n+ys.length)=xs++ys:=by
 have h1:c.take (off+n)=c.take off++xs:=by rw[List.take_add,hx]
 have h2:(c.take off).length=off:=by rw[List.length_take];omega
 rw[h1,List.append_assoc,List.append_assoc,List.drop_append_of_le_length (by omega),List.drop_of_length_le (Nat.le_of_eq h2),List.nil_append,←List.append_assoc,
  List.take_append_of_le_length (by rw[List.length_append];omega),List.take_of_length_le (by rw[List.length_append];omega)]
theorem JgN {d:TD} {t ty e:TypeId} (hT:d.ok P t) (hes:Yp (some d)=some (e,1)) {v y:Value} {m:Nat} {xs news:List Value} (ho:OwnF w e v xs) (hy:YAt w y m news) (hnl:news.length=m)
  (hn1:∀u∈news,u.oneCell'=true) (hlen:xs.length+m≤YJ):
  ∃v' w',(Builtin.append_ #[t,t] ty #[v,y]).run P w= .ok v' w'∧v'.oneCell'=true∧OwnF w' e v' (xs++news)∧BelowX (fun b=>w.heap.size≤b∨Jw v=some b) w w'∧∀b,Jw v'=some b→w.heap.size≤b∨Jw v=some b:=by
 rcases ho with⟨hv,hx⟩|⟨g,off,cap,cur,hv,hg,hnc,hcm,hcs,htake⟩
 ·subst hx
  obtain⟨v',w',r1,r2,r3,r4,r5⟩:=QE (P:=P) (ty:=ty) hT hes (n:=0) (xs:=[]) (v:=v) ⟨rfl,.inl ⟨hv,rfl⟩⟩ hy (by rw[hnl,Nat.mul_one]) hn1 (by simpa using hlen)
  refine⟨v',w',r1,r2,OwnF.of_own r3,⟨r4.os,r4.tape,r4.output,r4.size,fun b hb hn=>r4.block b hb fun e=>hn (.inr ?_)⟩,fun b hb=>(r5 b hb).symm⟩
  rw[hv] at e;cases e
 ·obtain⟨t1,i,z,hi,hisz,hz,hzs,hby,hp⟩:=Xz hT hes
  rcases hy with⟨rfl,h0⟩|⟨ad,cap2,rfl,g5⟩
  ·have Jr:news=[]:=List.length_eq_zero_iff.1 (by rw[hnl,h0])
   subst Jr
   have hr:(Builtin.append_ #[t,t] ty #[v,.slice none 0 0]).run P w= .ok v w:=by
    rw[hv]
    simp[Builtin.append_,run_underlying t1,sizeOf,typeInfo,hi,Builtin.lenOf,hnc,run_firstCells_none,storeCells]
   refine⟨v,w,hr,by rw[hv];rfl,by rw[List.append_nil];exact .inr ⟨g,off,cap,cur,hv,hg,hnc,hcm,hcs,htake⟩,⟨rfl,rfl,rfl,Nat.le_refl _,fun _ _ _=>rfl⟩,fun b hb=> .inr hb⟩
  ·have hb64:∀n:Nat,n≤YJ→n*i.bytes≤140737488355328:=fun n hn=>by
    have:=Nat.mul_le_mul hn hby
    simp only[YJ] at this
    omega
   by_cases hroom:xs.length+m≤cap
   ·have hfit:off+xs.length+news.length≤cur.size:=by omega
    have hr:=Jak (P:=P) (w:=w) (ty:=ty) t1 hi hisz hg hnl g5 hn1 hroom hfit (c:=cap2)
    refine⟨_,_,by rw[hv];exact hr,rfl,.inr ⟨g,off,cap,_,?_,setRow_heap w g cur _ e _ hg,?_,hcm,?_,?_⟩,⟨rfl,rfl,rfl,by simp,fun k _ hk=>setRow_other w g k _ (fun e=>hk (.inr (by rw[hv];simp only[Jw];exact congrArg some e.symm)))⟩,fun b hb=> .inr (by rw[hv];exact hb)⟩
    ·rw[List.length_append,hnl]
    ·rw[List.length_append];omega
    ·simp only[List.size_toArray,List.length_append,List.length_take,List.length_drop,Array.length_toList];omega
    ·rw[List.length_append]
     exact Jjn cur.toList xs news off xs.length htake rfl (by rw[Array.length_toList];exact hfit)
   ·have holds:∀j u,xs[j]? =some u→w.cell? ((⟨g,off,none⟩:Addr).add j)=some u:=fun j u hj=>OwnF.cell hg htake hj
    have hmx:xs.length+m≤1099511627776:=hlen
    have hr:=run_append_grow (P:=P) w t ty e i z t1 hi hz ⟨g,off,none⟩ xs.length cap xs (by rw[hisz,Nat.mul_one]) holds ad m cap2 news (by rw[hisz,Nat.mul_one];exact hnl) g5 (by omega) (by omega) (growslice_fits (by omega) (hb64 _ hlen))
    refine⟨_,_,by rw[hv];exact hr,rfl,.inr ⟨w.heap.size,0,grownCap w (xs.length+m) cap e,_,?_,heap_alloc_new w.drew _,?_,grownCap_le_maxLen w (xs.length+m) cap e (by simp only[maxLen];omega),?_,?_⟩,⟨rfl,rfl,rfl,by simp,fun k hk _=>heap_alloc_old w.drew _ k hk⟩,fun b hb=> .inl ?_⟩
    ·rw[List.length_append,hnl]
    ·rw[List.length_append,hnl];exact grownCap_ge w _ cap e
    ·have hge:=grownCap_ge w (xs.length+m) cap e
     simp only[Array.size_append,List.size_toArray,size_zeroCells,hzs,hnl]
     omega
    ·simp only[Array.toList_append,List.append_assoc,List.drop_zero]
     rw[←List.append_assoc]
     exact List.take_left
    ·simp only[Jw,Option.some.injEq] at hb;omega
theorem JbA (I:Inv B N w0 γ σ a w) {y:SV} {k:IntKind} {l:List Int} (h:JbW σ y=some (k,l)):RdI w (y.den γ) k l:=by
 unfold JbW at h
 split at h
 ·rename_i κ
  have go:∀x,σ (.h κ)=some (.e x)→x.at B γ w κ:=fun x hx=>I.ent κ x hx
  split at h
  ·rename_i k' l' hk;cases h;exact(I.key hk).2
  ·rename_i k' l' hk;cases h;exact(I.key hk).2.1
  ·rename_i e k' l' hk;cases h;exact Ql (I.key hk).2.1
  ·cases h
 ·cases h
theorem JaA (I:Inv B N w0 γ σ a w) {κ:Nat} {r:TypeId×IntKind×List Int} (h:Qs σ (.v (.one (.slc κ)))=some r):σ (.h κ)=some (.e (.ownf r.1 r.2.1 r.2.2))∧OwnF w r.1 (γ κ) (r.2.2.map (.int r.2.1))∧∀b,Jw (γ κ)=some b→B b:=by
 unfold Qs at h
 simp only at h
 split at h
 ·rename_i e k l hk;cases h;exact I.key hk
 ·cases h
theorem JiT {u:SV} {r:TypeId×IntKind×List Int} (h:Qs σ u=some r):∃κ,u= .v (.one (.slc κ)):=by
 unfold Qs at h
 split at h
 ·exact⟨_,rfl⟩
 ·cases h
theorem Je7 {v:Value} {k:IntKind} {l:List Int} (h:RdI w v k l):∃ad cap,v= .slice ad l.length cap∧(0<l.length→∃a0,ad=some a0∧∀i,i<l.length→w.cell? (a0.add i)=some (.int k (l.getD i 0))):=by
 rcases h with⟨⟨o,h1⟩,h2⟩|⟨a,cap,h1,_,_,_,_,h6⟩
 ·subst h2;exact⟨o,0,h1,fun h=>by cases h⟩
 ·exact⟨some a,cap,h1,fun _=>⟨a,rfl,h6⟩⟩
theorem JiQ (hT:TOk P T) (I:Inv B N w0 γ σ a w) {ns:List Nat} (hf:∀κ∈ns,NoKey κ σ) {o:Oper} {eff:Eff} (h:ofS T σ ns o.op=some eff) (hn:eff.need):RunOk P (execOp a.eval o) w (Post B N w0 σ a eff):=by
 obtain⟨dst,op,ty,pos,after,guard⟩:=o
 simp only at h
 cases op with
 | slice t x lo hi mx=>
  cases lo with
  |none=>cases h
  | some lo=>cases hi with
   |some hi=>cases h
   | none =>cases mx with
    |some mx=>cases h
    | none =>
     simp only[ofS] at h
     split at h
     ·rename_i e k κ km m κ' hd hx hlo
      cases hr:Qs σ (.v (.one (.slc κ))) with
      |none=>simp[hr] at h
      | some r=>
       simp only[hr,Option.bind_some,Option.some.injEq] at h
       subst h
       obtain⟨h0,h1⟩:0≤m∧m≤r.2.2.length:=hn
       obtain⟨hk,ho,hB⟩:=JaA I hr
       have ex:a.eval x=γ κ:=(I.eval hx).1
       have el:a.eval lo= .int km m:=(I.eval hlo).1
       obtain⟨t1,t2,t3,t4⟩:=hT _ _ hd
       have hsz:∀w,(sizeOf e).run P w= .ok 1 w:=fun w=>by
        cases hq:P.info? e with
        |none=>simp[hq] at t3
        |some i=>simp[hq] at t3;simp[sizeOf,typeInfo,hq,t3.1]
       have hlen:(r.2.2.drop m.toNat).length=r.2.2.length-m.toNat:=List.length_drop
       have hv:∃v,(Instr.sliceAt t (γ κ) (some (.int km m)) none none).run P w= .ok v w∧v.oneCell'=true∧Jw v=Jw (γ κ)∧OwnF w r.1 v ((r.2.2.drop m.toNat).map (.int r.2.1)):=by
        rcases ho with⟨hv,hx0⟩|⟨g,off,cap,cur,hv,hg,hnc,hcm,hcs,htk⟩
        ·have hl0:r.2.2=[]:=by simpa using hx0
         have hm:m=0:=by rw[hl0] at h1;simp at h1;omega
         subst hm
         refine⟨_,by rw[hv];exact VT (P:=P) (ad:=none) (len:=0) (cap:=0) t1 hsz (.inr ⟨km,rfl⟩) (.inl ⟨rfl,rfl⟩) (Int.le_refl 0) (Int.le_refl 0) (Int.le_refl 0) w,rfl,by simp[hv,Jw],.inl ⟨by simp,by simp[hl0]⟩⟩
        ·rw[List.length_map] at hv hnc htk
         refine⟨_,by rw[hv];exact VT (P:=P) (ad:=some ⟨g,off,none⟩) (len:=r.2.2.length) (cap:=cap) t1 hsz (.inr ⟨km,rfl⟩) (.inl ⟨rfl,rfl⟩) h0 h1 (by omega) w,rfl,?_,.inr ⟨g,if cap=m.toNat then off else off+m.toNat,cap-m.toNat,cur,?_,hg,?_,by omega,?_,?_⟩⟩
         ·rw[hv];split
          ·rfl
          ·simp[Jw,XD]
         ·rw[List.length_map,hlen]
          have:(r.2.2.length:Int).toNat=r.2.2.length:=Int.toNat_natCast _
          rw[this]
          split
          ·rfl
          ·simp[Jn]
         ·rw[List.length_map,hlen];omega
         ·split<;>omega
         ·rw[List.length_map,hlen]
          split
          ·rename_i hc
           have:r.2.2.length-m.toNat=0:=by omega
           rw[this,List.take_zero]
           have:r.2.2.drop m.toNat=[]:=List.drop_eq_nil_of_le (by omega)
           rw[this];rfl
          ·rw[List.map_drop,←htk,List.drop_take,List.drop_drop]
       obtain⟨v,r1,r2,r3,r4⟩:=hv
       have hex:execOp a.eval ⟨dst,.slice t x (some lo) none none,ty,pos,after,guard⟩=(do pure (.value (←Instr.sliceAt t (a.eval x) (some (a.eval lo)) none none))):=rfl
       rw[hex,ex,el]
       refine Jm r1 ⟨fun x=>if x=κ' then v else γ x,by simp[SV.den,V1.den,Leaf.cells],⟨trivial,trivial⟩,WR I hk rfl (hf κ' (by simp)) r2 ⟨rfl,rfl,rfl,Nat.le_refl _,fun _ _ _=>rfl⟩ ?_ fun b hb=> ?_⟩
       ·simp only[Ent.at,if_pos]
        exact⟨r4,fun b hb=> .inr (by rw[←r3];exact hb)⟩
       ·simp only[Ent.foot,if_pos] at hb
        exact .inr (by rw[←r3];exact hb)
     ·cases h
 | indexAddr t x i=>
  simp only[ofS] at h
  split at h
  ·rename_i e k κ kj j hd hx hi
   cases hr:Qs σ (.v (.one (.slc κ))) with
   |none=>simp[hr] at h
   | some r=>
    simp only[hr,Option.bind_some,Vp,Option.some.injEq] at h
    subst h
    obtain⟨h0,h1⟩:0≤j∧j<r.2.2.length:=hn
    obtain⟨ad,cap,q1,q2⟩:=Je7 (OwnF.rd (JaA I hr).2.1)
    obtain⟨a0,rfl,q3⟩:=q2 (by omega)
    obtain⟨t1,t2,t3,t4⟩:=hT _ _ hd
    have hsz:(sizeOf e).run P w= .ok 1 w:=by
     cases hq:P.info? e with
     |none=>simp[hq] at t3
     |some i=>simp[hq] at t3;simp[sizeOf,typeInfo,hq,t3.1]
    have e1:a.eval x= .slice (some a0) r.2.2.length cap:=(I.eval hx).1.trans q1
    have e2:a.eval i= .int kj j:=(I.eval hi).1
    have hrun:(Instr.indexAt t (a.eval x) (a.eval i)).run P w= .ok (JM (γ κ) (j.toNat*1+0)) w:=by
     rw[e1,e2,q1]
     simp[Instr.indexAt,asIntOf,run_underlying t1,h0,h1,hsz,JM]
    exact Jm hrun ⟨γ,rfl,⟨h0,trivial⟩,I⟩
  ·cases h
 | load t x=>
  simp only[ofS] at h
  split at h
  ·rename_i kt κ i hd hx
   cases hr:Qs σ (.v (.one (.slc κ))) with
   |none=>simp[hr] at h
   |some r=>
    simp only[hr,Option.bind_some,Vp,Option.some.injEq] at h
    subst h
    have h1:i<r.2.2.length:=hn
    have ex:=I.eval hx
    have h0:0≤i:=ex.2.1
    obtain⟨ad,cap,q1,q2⟩:=Je7 (OwnF.rd (JaA I hr).2.1)
    obtain⟨a0,rfl,q3⟩:=q2 (by omega)
    have hc:=q3 i.toNat (by omega)
    have:=WZ (P:=P) (t:=t) (Yt (hT t _ hd) w) hc
    refine Jm (v:= .int r.2.1 (r.2.2.getD i.toNat 0)) (w':=w) ?_ ⟨γ,rfl,⟨trivial,trivial⟩,I⟩
    rw[ex.1]
    simp only[SV.den,V1.den,Leaf.cells,List.headD_cons,q1,JM,Nat.mul_one,Nat.add_zero,Instr.loadAt,Instr.sureAddr,Sem.run_bind,Sem.run_pure,Result.andThen_ok]
    exact this
  ·cases h
 | call c =>
  obtain⟨callee,args,ts⟩:=c
  cases callee with
  | builtin b=>cases b with
   | len=>
    simp only[ofS] at h
    split at h
    ·rename_i e k u hd hx
     cases hr:Qs σ u with
     |none=>simp[hr] at h
     | some r=>
      simp only[hr,Option.bind_some,Ju,Option.some.injEq] at h
      subst h
      obtain⟨κ,rfl⟩:=JiT hr
      cases ht0:ts[0]? with
      |none=>simp[ht0] at hd
      |some t=>
      simp only[ht0,Option.bind_some] at hd
      cases ha0:args[0]? with
      |none=>simp[ha0] at hx
      |some x=>
      simp only[ha0,Option.bind_some] at hx
      obtain⟨ad,cap,q1,_⟩:=Je7 (OwnF.rd (JaA I hr).2.1)
      obtain⟨t1,_⟩:=hT _ _ hd
      have e1:a.eval x= .slice ad r.2.2.length cap:=(I.eval hx).1.trans q1
      have hrun:(Builtin.len_ ts ty (args.map a.eval)).run P w= .ok (.int .i64 r.2.2.length) w:=by
       simp[Builtin.len_,ht0,ha0,run_underlying t1,goInt,e1]
      have hex:execOp a.eval ⟨dst,.call ⟨.builtin .len,args,ts⟩,ty,pos,after,guard⟩=(do pure (.value (←Builtin.len_ ts ty (args.map a.eval)))):=rfl
      rw[hex]
      exact Jm hrun ⟨γ,rfl,⟨trivial,trivial⟩,I⟩
    ·cases h
   | append=>
    simp only[ofS] at h
    split at h
    ·rename_i x y t t' κ' ha0 ht0
     cases htt:Nat.beq t t' with
     |false=>simp[htt] at h
     | true=>
      obtain rfl:=Nat.eq_of_beq_eq_true htt
      simp only[htt,cond_true] at h
      have ea:args= #[x,y]:=by rw[←Array.toArray_toList (xs:=args),ha0]
      have et:ts= #[t,t]:=by rw[←Array.toArray_toList (xs:=ts),ht0]
      subst ea;subst et
      split at h
      ·rename_i e k κ k2 l2 hd hx hy
       cases hr:Qs σ (.v (.one (.slc κ))) with
       |none=>simp[hr] at h
       | some r=>
        simp only[hr,Option.bind_some] at h
        cases hck:(keq k r.2.1&&keq k k2&&Nat.beq e r.1) with
        |false=>simp[hck] at h
        | true=>
         simp only[hck,cond_true,Option.some.injEq] at h
         subst h
         simp only[Bool.and_eq_true] at hck
         obtain⟨⟨c1,c2⟩,c3⟩:=hck
         have c1:=WF c1
         have c2:=WF c2
         have c3:=Nat.eq_of_beq_eq_true c3
         subst c2
         have hlen:r.2.2.length+l2.length≤YJ:=hn
         obtain⟨hk,ho,hB⟩:=JaA I hr
         cases hyv:Jg σ y with
         |none=>simp[hyv] at hy
         |some uy=>
         simp only[hyv,Option.bind_some] at hy
         have ey:=(I.eval hyv).1
         have hy':=JlX (JbA I hy)
         obtain⟨v',w',r1,r2,r3,r4,r5⟩:=JgN (P:=P) (t:=t) (ty:=ty) (hT t _ hd) (e:=e) rfl (by rw[c3];exact ho) hy' (by simp) (fun u hu=>by obtain⟨b,_,rfl⟩:=List.mem_map.1 hu;rfl) (by simpa using hlen)
         have ex:a.eval x=γ κ:=(I.eval hx).1
         have hex:execOp a.eval ⟨dst,.call ⟨.builtin .append, #[x,y], #[t,t]⟩,ty,pos,after,guard⟩=(do pure (.value (←Builtin.append_ #[t,t] ty (#[x,y].map a.eval)))):=rfl
         rw[hex]
         refine Jm (v:=v') (w':=w') (by simpa[ex,ey] using r1) ⟨fun x=>if x=κ' then v' else γ x,by simp[SV.den,V1.den,Leaf.cells],⟨trivial,trivial⟩,WR I hk rfl (hf κ' (by simp)) r2 r4 ?_ fun b hb=> ?_⟩
         ·simp only[Ent.at,if_pos]
          refine⟨?_,r5⟩
          rw[←c1] at r3
          rw[List.map_append]
          exact r3
         ·simp only[Ent.foot,if_pos] at hb
          exact r5 b hb
      ·cases h
    ·cases h
   |_=>simp[ofS] at h
  |_=>simp[ofS] at h
 |_=>simp[ofS] at h
theorem XX {u:SV} (h:∀κ'∈u.keys,Jh σ' κ'=Jh σ κ'):Qs σ' u=Qs σ u:=by
 unfold Qs
 split
 ·rename_i κ';rw[h κ' (by simp[SV.keys,V1.keys,V1.keys.lk])]
 ·rfl
end Go.Gw
/- Slices of one's own of records of numbers. -/
namespace Go.Gw
open Go.RowKit Go.MapKept
variable {P:Program} {T:TypeId→Option TD} {B:Nat→Prop} {N:Nat} {w0:W0} {γ:Nat→Value} {σ σ':Stt} {a:Act} {w:World}
theorem JbP:∀{ls:List Leaf},ls.all Jj3=true→Jq γ ls=(ls.map Jlq).map (.int .i64)
 |[],_=>rfl
 |x::r,h=>by
  simp only[List.all_cons,Bool.and_eq_true] at h
  rw[JP,JbP h.2]
  have h1:=h.1
  unfold Jj3 at h1
  split at h1
  ·rfl
  ·cases h1
theorem JaM (I:Inv B N w0 γ σ a w) {u:SV} {r:TypeId×Nat×List Int} (h:QY σ u=some r):∃κ,u= .v (.one (.slc κ))∧σ (.h κ)=some (.e (.owni r.1 r.2.1 r.2.2))∧w.ownsRow 0 r.1 r.2.1 (γ κ) (r.2.2.length/r.2.1) (r.2.2.map (.int .i64))∧∀b,Jw (γ κ)=some b→B b:=by
 unfold QY at h
 split at h
 ·split at h
  ·rename_i hk;cases h;exact⟨_,rfl,I.key hk⟩
  ·cases h
 ·cases h
theorem JlH (I:Inv B N w0 γ σ a w) {sz:Nat} {u:SV} {n:Nat} (h:Jk4 σ sz u=some n):∃κ,u= .v (.one (.slc κ))∧∃ad cap,γ κ= .slice ad n cap:=by
 unfold Jk4 at h
 split at h
 ·split at h
  ·rename_i e sz' l hk
   cases hs:Nat.beq sz sz' with
   |false=>simp[hs] at h
   |true=>
    obtain rfl:=Nat.eq_of_beq_eq_true hs
    simp only[hs,cond_true,Option.some.injEq] at h
    subst h
    refine⟨_,rfl,?_⟩
    rcases(I.key hk).2.1.2 with⟨q,q0⟩|⟨g,cap,cur,q,_⟩
    ·exact⟨none,0,by rw[q,q0]⟩
    ·exact⟨_,_,q⟩
  ·rename_i hk;cases h;exact⟨_,rfl,(I.key hk).2⟩
  ·cases h
 ·cases h
theorem Jff (f:Nat→Int) (l:List Nat):Jq γ (l.map fun q=>Leaf.int .i64 (f q))=l.map fun q=>Value.int .i64 (f q):=by
 induction l with
 |nil=>rfl
 |cons x r ih=>rw[List.map_cons,JP,ih];rfl
theorem JgW {t e2:TypeId} {sz:Nat} (hT:(TD.sliceR e2 sz).ok P t) (I:Inv B N w0 γ σ a w) {κ κ':Nat} {e:TypeId} {l:List Int} {hi:Option Value} {n:Int} (hk:σ (.h κ)=some (.e (.owni e sz l)))
  (hf:NoKey κ' σ) (hh:Bd hi ((l.length/sz:Nat):Int) n) (h1:0≤n) (h2:n≤(l.length/sz:Nat)) {p:List Prop}:
  ∃v,(Instr.sliceAt t (γ κ) none hi none).run P w= .ok v w∧Post B N w0 σ a ⟨some (.v (.one (.slc κ'))),[(κ',.owni e sz (l.take (n.toNat*sz))),(κ,.dead)],p⟩ v w:=by
 obtain⟨t1,i',z,hi',hisz,hz,hzs,_,hp,hp16⟩:=VZ hT
 have hsz:∀w,(sizeOf e2).run P w= .ok sz w:=fun w=>by simp[sizeOf,typeInfo,hi',hisz]
 obtain⟨⟨q1,q2⟩,hB⟩:=I.ent κ _ hk
 have hl:l.length=l.length/sz*sz:=by simpa using q1
 have hn:n.toNat≤l.length/sz:=by omega
 have hlen:(l.take (n.toNat*sz)).length=n.toNat*sz:=by rw[List.length_take,Nat.min_eq_left];rw[hl];exact Nat.mul_le_mul_right _ hn
 have hdiv:(l.take (n.toNat*sz)).length/sz=n.toNat:=by rw[hlen,Nat.mul_div_cancel _ hp]
 have hv:∃v,(Instr.sliceAt t (γ κ) none hi none).run P w= .ok v w∧v.oneCell'=true∧Jw v=Jw (γ κ)∧w.ownsRow 0 e sz v n.toNat ((l.take (n.toNat*sz)).map (.int .i64)):=by
  rcases q2 with⟨hv,h0⟩|⟨g,cap,cur,hv,_,hg,hnc,hcm,hcs,htake⟩
  ·have hn0:n=0:=by omega
   subst hn0
   have hh':Bd hi (0:Nat) 0:=by rw[h0] at hh;exact hh
   refine⟨_,by rw[hv];exact VT (P:=P) (ad:=none) (len:=0) (cap:=0) t1 hsz (.inl ⟨rfl,rfl⟩) hh' (Int.le_refl 0) (Int.le_refl 0) (Int.le_refl 0) w,rfl,by simp[hv,Jw],?_⟩
   simpa using World.ownsRow_nil w 0 e sz
  ·refine⟨_,by rw[hv];exact VT (P:=P) (ad:=some ⟨g,0,none⟩) (len:=l.length/sz) (cap:=cap) t1 hsz (.inl ⟨rfl,rfl⟩) hh (Int.le_refl 0) h1 (by omega) w,?_,?_⟩
   ·rfl
   ·refine⟨?_,by rw[List.length_map,hlen],.inr ⟨g,cap,cur,?_,Nat.zero_le _,hg,by omega,hcm,hcs,?_⟩⟩
    ·rw[hv]
     simp only[Int.toNat_zero,Nat.zero_mul,Option.map_some,Jn,Nat.add_zero]
     split<;>rfl
    ·simp only[Int.toNat_zero,Nat.sub_zero,Nat.zero_mul,Option.map_some,Jn,Nat.add_zero]
     split<;>rfl
    ·have:=congrArg (List.take (n.toNat*sz)) htake
     rw[List.take_take,Nat.min_eq_left (Nat.mul_le_mul_right _ hn),←List.map_take] at this
     exact this
 obtain⟨v,hr,hv1,hvb,ho⟩:=hv
 have tch:∀b,Jw v=some b→w.heap.size≤b∨Jw (γ κ)=some b:=fun b hb=> .inr (by rw[←hvb];exact hb)
 refine⟨v,hr,fun x=>if x=κ' then v else γ x,by simp[SV.den,V1.den,Leaf.cells],⟨trivial,trivial⟩,WR I hk rfl hf hv1 (BelowX.refl _ w) ⟨?_,fun b hb=>tch b (by simpa using hb)⟩ fun b hb=>tch b (by simpa[Ent.foot] using hb)⟩
 rw[hdiv]
 simpa using ho
theorem Jhl (hT:TOk P T) (I:Inv B N w0 γ σ a w) {ns:List Nat} (hf:∀κ∈ns,NoKey κ σ) {o:Oper} {eff:Eff} (h:oiS T σ ns o.op=some eff) (hn:eff.need):RunOk P (execOp a.eval o) w (Post B N w0 σ a eff):=by
 obtain⟨dst,op,ty,pos,after,guard⟩:=o
 simp only at h
 cases op with
 | buildSlice t n ps=>
  match n with
  |0=>simp[oiS] at h
  |n+2=>simp[oiS] at h
  | 1 =>
   simp only[oiS] at h
   split at h
   ·rename_i e sz x κ' hd hps
    split at h
    ·rename_i ls hx
     cases hck:(Nat.beq ls.length sz&&ls.all Jj3) with
     |false=>simp[hck] at h
     | true=>
      simp only[hck,cond_true,Option.some.injEq] at h
      subst h
      simp only[Bool.and_eq_true] at hck
      have hsz:=Nat.eq_of_beq_eq_true hck.1
      have hcl:=JbP (γ:=γ) hck.2
      obtain⟨t1,i,z,hi,hisz,hz,hzs,_,hp,hp16⟩:=VZ (hT t _ hd)
      have ex:a.eval x= .agg (Jq γ ls).toArray:=(I.eval hx).1
      have hl:(Jq γ ls).length=sz:=by rw[hcl];simpa using hsz
      have eps:ps= #[(0,x)]:=by rw[←Array.toArray_toList (xs:=ps),hps]
      subst eps
      have hr:(Instr.buildSlice t 1 ((#[(0,x)]:Array (Nat×Operand)).map fun p=>(p.1,a.eval p.2))).run P w= .ok (.slice (some ⟨w.heap.size,0,none⟩) 1 1) (w.alloc (.cells (Jq γ ls).toArray e)):=by
       have h24:¬(1*sz>2^24):=by omega
       have hz':∀w,(zeroValue e).run P w= .ok z w:=fun w=>by simp[zeroValue,typeInfo,hi,hz]
       have hs':∀w,(sizeOf e).run P w= .ok sz w:=fun w=>by simp[sizeOf,typeInfo,hi,hisz]
       have hf1:Instr.fill (fun i=>some (i*sz,sz)) ((Array.range (1*sz)).map (z.cells[·%z.cells.size]!)) [(0,a.eval x)]=some (Jq γ ls).toArray:=by
        have:=XI (fun i=>some (i*sz,sz)) (i:=0) (off:=0) (sz:=sz) (by simp) (a.eval x) [] ((Array.range (1*sz)).map (z.cells[·%z.cells.size]!)).toList [] [] rfl (by simp) (by rw[ex];simpa[Value.cells] using hl)
        simp only[List.append_nil,List.nil_append,Array.toArray_toList] at this
        rw[this]
        simp[Instr.fill,ex,Value.cells]
       unfold Instr.buildSlice
       simp only[Sem.run_bind,run_underlying t1,Result.andThen_ok,hs',if_neg h24,if_neg (show ¬1*sz=0 by omega),hz',Sem.run_pure,List.map_toArray,List.map_cons,List.map_nil,hf1]
       simp[newRow]
      have hlen1:(ls.map Jlq).length/sz=1:=by rw[List.length_map,hsz];exact Nat.div_self hp
      refine Jm hr ⟨fun x=>if x=κ' then .slice (some ⟨w.heap.size,0,none⟩) 1 1 else γ x,by simp[SV.den,V1.den,Leaf.cells],⟨trivial,trivial⟩,I.fresh (hf κ' (by simp)) rfl ⟨rfl,rfl,rfl,by simp,fun b hb _=>heap_alloc_old w _ b hb⟩ ?_ ?_⟩
      ·simp only[Ent.at,if_pos]
       refine⟨?_,fun b hb=> ?_⟩
       ·rw[hlen1,←hcl]
        exact World.ownsRow_lit (base:=0) (e:=e) (size:=sz) w (Jq γ ls).toArray 1 (Nat.zero_le _) (by simp[maxLen]) (by simpa using hl)
       ·simp only[Jw,Option.some.injEq] at hb;omega
      ·intro b hb
       simp only[Ent.foot,if_pos,Jw,Option.some.injEq] at hb
       omega
    ·cases h
   ·cases h
 | makeFunc fn first caps=>
  cases fn with
  | func f=>
   simp only[oiS] at h
   split at h
   ·rename_i x hf1 hc1
    split at h
    ·rename_i κ hx
     simp only[Ju,Option.some.injEq] at h
     subst h
     have e1:a.eval x= .pointer (some ⟨bk γ κ,0,none⟩):=(I.eval hx).1
     have ef:first= #[]:=by rw[←Array.toArray_toList (xs:=first),hf1]
     have ec:caps= #[x]:=by rw[←Array.toArray_toList (xs:=caps),hc1]
     subst ef;subst ec
     have hrun:(Instr.makeFunc (.func f) ((#[]:Array Operand).map a.eval) ((#[x]:Array Operand).map a.eval)).run P w= .ok (.func (.func f) #[] #[.pointer (some ⟨bk γ κ,0,none⟩)]) w:=by
      simp[Instr.makeFunc,e1]
     exact Jm hrun ⟨γ,rfl,⟨trivial,trivial⟩,I⟩
    ·cases h
   ·cases h
  |_=>simp[oiS] at h
 | indexAddr t x i=>
  simp only[oiS] at h
  split at h
  ·rename_i e sz κ kj j hd hx hi
   cases hr:QY σ (.v (.one (.slc κ))) with
   |none=>simp[hr] at h
   | some r=>
    simp only[hr,Option.bind_some] at h
    cases hb:Nat.beq sz r.2.1 with
    |false=>simp[hb] at h
    | true=>
     simp only[hb,cond_true,Vp,Option.some.injEq] at h
     subst h
     have hs:=Nat.eq_of_beq_eq_true hb
     obtain⟨h0,h1⟩:0≤j∧j<(r.2.2.length/r.2.1:Nat):=hn
     obtain⟨κ0,hκ0,hk,ho,hB⟩:=JaM I hr
     cases hκ0
     obtain⟨t1,i',z,hi',hisz,hz,hzs,_,hp,hp16⟩:=VZ (hT t _ hd)
     have hsz:(sizeOf e).run P w= .ok sz w:=by simp[sizeOf,typeInfo,hi',hisz]
     rcases ho.2 with⟨q,q0⟩|⟨g,cap,cur,q,_⟩
     ·omega
     ·have e1:a.eval x= .slice (some ⟨g,0,none⟩) (r.2.2.length/r.2.1) cap:=(I.eval hx).1.trans q
      have e2:a.eval i= .int kj j:=(I.eval hi).1
      have hrun:(Instr.indexAt t (a.eval x) (a.eval i)).run P w= .ok (JM (γ κ) (j.toNat*sz+0)) w:=by
       rw[e1,e2,q]
       clear e1 q
       generalize r.2.2.length/r.2.1=m at h1 ⊢
       simp[Instr.indexAt,asIntOf,run_underlying t1,h0,h1,hsz,JM]
      exact Jm hrun ⟨γ,rfl,⟨h0,trivial⟩,I⟩
  ·cases h
 | load t x=>
  simp only[oiS] at h
  split at h
  ·rename_i n offs z κ sz i hd hx
   cases hr:QY σ (.v (.one (.slc κ))) with
   |none=>simp[hr] at h
   | some r=>
    simp only[hr,Option.bind_some] at h
    cases hb:(Nat.beq sz r.2.1&&Nat.beq n sz) with
    |false=>simp[hb] at h
    | true=>
     simp only[hb,cond_true,Vp,Option.some.injEq] at h
     subst h
     simp only[Bool.and_eq_true] at hb
     have hs:=Nat.eq_of_beq_eq_true hb.1
     have hs2:=Nat.eq_of_beq_eq_true hb.2
     have h1:i<(r.2.2.length/r.2.1:Nat):=hn
     have ex:=I.eval hx
     have h0:0≤i:=ex.2.1
     obtain⟨κ0,hκ0,hk,ho,hB⟩:=JaM I hr
     cases hκ0
     have hl:r.2.2.length=r.2.2.length/r.2.1*r.2.1:=by simpa using ho.1
     rcases ho.2 with⟨q,q0⟩|⟨g,cap,cur,q,_⟩
     ·omega
     ·have hc:=World.ownsRow.cells ho (g:=g) (by rw[q];rfl)
      have hin:∀m,m<r.2.1→i.toNat*r.2.1+m<r.2.2.length:=fun m hm=>by
       have h2:(i.toNat+1)*r.2.1≤r.2.2.length/r.2.1*r.2.1:=Nat.mul_le_mul_right _ (by omega)
       rw[Nat.add_mul,Nat.one_mul] at h2
       omega
      have hll:=run_loadCells_list (P:=P) w ((⟨g,0,none⟩:Addr).add (i.toNat*r.2.1)) ((List.range r.2.1).map fun m=>Value.int .i64 (r.2.2.getD (i.toNat*r.2.1+m) 0)) fun j v hv=>by
       rw[List.getElem?_map] at hv
       cases hj:(List.range r.2.1)[j]? with
       |none=>rw[hj] at hv;cases hv
       |some m=>
        obtain⟨hj1,hj2⟩:=List.getElem?_eq_some_iff.1 hj
        rw[List.getElem_range] at hj2
        subst hj2
        rw[List.length_range] at hj1
        rw[hj] at hv
        simp only[Option.map_some,Option.some.injEq] at hv
        subst hv
        have:=hin j hj1
        rw[YZ rfl]
        refine hc _ _ ?_
        rw[List.getElem?_map,List.getElem?_eq_getElem this]
        simp[List.getD,this]
      refine Jm (v:= .agg ((List.range r.2.1).map fun m=>Value.int .i64 (r.2.2.getD (i.toNat*r.2.1+m) 0)).toArray) (w':=w) ?_ ⟨γ,by
       show _=Value.agg (Jq γ ((List.range r.2.1).map fun q=>Leaf.int .i64 (r.2.2.getD (i.toNat*r.2.1+q) 0))).toArray
       rw[Jff fun q=>r.2.2.getD (i.toNat*r.2.1+q) 0],fun x hx=>by
       obtain⟨_,_,rfl⟩:=List.mem_map.1 hx;trivial,I⟩
      have hag:=Yt (hT t _ hd) w
      have hsz:=Jbi (hT t _ hd) w
      rw[ex.1]
      simp only[SV.den,V1.den,Leaf.cells,List.headD_cons,q,JM,Nat.add_zero,Instr.loadAt,Instr.sureAddr,Sem.run_bind,Sem.run_pure,Result.andThen_ok]
      simp only[List.length_map,List.length_range] at hll
      simp[loadVar,hag,hsz,TD.isA,TD.sz,hs2,hs,hll]
  ·cases h
 | slice t x lo hi mx=>
  match lo,hi,mx with
  | none,some y,none=>
   simp only[oiS] at h
   split at h
   ·rename_i e sz κ kj j κ' hd hx hy
    cases hr:QY σ (.v (.one (.slc κ))) with
    |none=>simp[hr] at h
    | some r=>
     simp only[hr,Option.bind_some] at h
     cases hb:Nat.beq sz r.2.1 with
     |false=>simp[hb] at h
     |true=>
      simp only[hb,cond_true,Option.some.injEq] at h
      subst h
      have hs:=Nat.eq_of_beq_eq_true hb
      obtain⟨h0,h1⟩:0≤j∧j≤(r.2.2.length/r.2.1:Nat):=hn
      obtain⟨κ0,hκ0,hk,ho,hB⟩:=JaM I hr
      cases hκ0
      have e1:a.eval x=γ κ:=(I.eval hx).1
      have e2:a.eval y= .int kj j:=(I.eval hy).1
      have hex:execOp a.eval ⟨dst,.slice t x none (some y) none,ty,pos,after,guard⟩=(do pure (.value (←Instr.sliceAt t (a.eval x) none (some (a.eval y)) none))):=rfl
      rw[hex,e1,e2]
      rw[←hs] at hk h1 ⊢
      obtain⟨v,r1,r2⟩:=JgW (P:=P) (p:=[0≤j∧j≤(r.2.2.length/sz:Nat)]) (hT t _ hd) I hk (hf κ' (by simp)) (.inr ⟨kj,rfl⟩) h0 h1
      exact Jm r1 r2
   ·cases h
  |some _,_,_=>simp[oiS] at h
  |none,none,_=>simp[oiS] at h
  |none,some _,some _=>simp[oiS] at h
 | call c =>
  obtain⟨callee,args,ts⟩:=c
  cases callee with
  | builtin b=>cases b with
   | len=>
    simp only[oiS] at h
    split at h
    ·rename_i e sz u hd hx
     cases hr:Jk4 σ sz u with
     |none=>simp[hr] at h
     | some n=>
      simp only[hr,Option.bind_some,Ju,Option.some.injEq] at h
      subst h
      obtain⟨κ,rfl,ad,cap,q1⟩:=JlH I hr
      cases ht0:ts[0]? with
      |none=>simp[ht0] at hd
      |some t=>
      simp only[ht0,Option.bind_some] at hd
      cases ha0:args[0]? with
      |none=>simp[ha0] at hx
      |some x=>
      simp only[ha0,Option.bind_some] at hx
      obtain⟨t1,_⟩:=VZ (hT t _ hd)
      have e1:a.eval x= .slice ad n cap:=(I.eval hx).1.trans q1
      have hrun:(Builtin.len_ ts ty (args.map a.eval)).run P w= .ok (.int .i64 (n:Int)) w:=by
       simp[Builtin.len_,ht0,ha0,run_underlying t1,goInt,e1]
      have hex:execOp a.eval ⟨dst,.call ⟨.builtin .len,args,ts⟩,ty,pos,after,guard⟩=(do pure (.value (←Builtin.len_ ts ty (args.map a.eval)))):=rfl
      rw[hex]
      exact Jm hrun ⟨γ,rfl,⟨trivial,trivial⟩,I⟩
    ·cases h
   | append=>
    simp only[oiS] at h
    split at h
    ·rename_i x y t t' κ' ha0 ht0
     cases htt:Nat.beq t t' with
     |false=>simp[htt] at h
     | true=>
      obtain rfl:=Nat.eq_of_beq_eq_true htt
      simp only[htt,cond_true] at h
      have ea:args= #[x,y]:=by rw[←Array.toArray_toList (xs:=args),ha0]
      have et:ts= #[t,t]:=by rw[←Array.toArray_toList (xs:=ts),ht0]
      subst ea;subst et
      split at h
      ·rename_i e sz κ r2 hd hx hy
       cases hr:QY σ (.v (.one (.slc κ))) with
       |none=>simp[hr] at h
       | some r=>
        simp only[hr,Option.bind_some] at h
        cases hck:(Nat.beq e r.1&&Nat.beq sz r.2.1&&Nat.beq sz r2.2.1) with
        |false=>simp[hck] at h
        | true=>
         simp only[hck,cond_true,Option.some.injEq] at h
         subst h
         simp only[Bool.and_eq_true] at hck
         have c1:=Nat.eq_of_beq_eq_true hck.1.1
         have c2:=Nat.eq_of_beq_eq_true hck.1.2
         have c3:=Nat.eq_of_beq_eq_true hck.2
         have hlen:r.2.2.length/sz+r2.2.2.length/sz≤YJ:=hn
         obtain⟨κ0,hκ0,hk,ho,hB⟩:=JaM I hr
         cases hκ0
         cases hyv:Jg σ y with
         |none=>simp[hyv] at hy
         |some uy=>
         simp only[hyv,Option.bind_some] at hy
         obtain⟨κ2,rfl,_,ho2,_⟩:=JaM I hy
         have ey:a.eval y=γ κ2:=(I.eval hyv).1
         have ex:a.eval x=γ κ:=(I.eval hx).1
         rw[←c1,←c2] at ho
         rw[←c3] at ho2
         obtain⟨t1,i,z,hi,hisz,hz,hzs,_,hp,hp16⟩:=VZ (hT t _ hd)
         have hl1:r.2.2.length=r.2.2.length/sz*sz:=by simpa using ho.1
         have hl2:r2.2.2.length=r2.2.2.length/sz*sz:=by simpa using ho2.1
         have hsum:(r.2.2++r2.2.2).length/sz=r.2.2.length/sz+r2.2.2.length/sz:=by
          rw[List.length_append,hl1,hl2,←Nat.add_mul,Nat.mul_div_cancel _ hp,Nat.mul_div_cancel _ hp,Nat.mul_div_cancel _ hp]
         obtain⟨v',w',r1,r2',r3,r4,r5⟩:=QE (P:=P) (t:=t) (ty:=ty) (hT t _ hd) rfl ho (Jl1 ho2) (by simpa using hl2) (fun u hu=>by obtain⟨b,_,rfl⟩:=List.mem_map.1 hu;rfl) hlen
         have obk:(γ κ).ownBlock=Jw (γ κ):=(QF ho).2
         have hex:execOp a.eval ⟨dst,.call ⟨.builtin .append, #[x,y], #[t,t]⟩,ty,pos,after,guard⟩=(do pure (.value (←Builtin.append_ #[t,t] ty (#[x,y].map a.eval)))):=rfl
         rw[hex]
         have r5':∀b,Jw v'=some b→w.heap.size≤b∨Jw (γ κ)=some b:=fun b hb=>(r5 b hb).symm
         refine Jm (v:=v') (w':=w') (by simpa[ex,ey] using r1) ⟨fun x=>if x=κ' then v' else γ x,by simp[SV.den,V1.den,Leaf.cells],⟨trivial,trivial⟩,WR I hk rfl (hf κ' (by simp)) r2' ?_ ?_ fun b hb=> ?_⟩
         ·exact⟨r4.os,r4.tape,r4.output,r4.size,fun b hb hn=>r4.block b hb fun e=>hn (.inr (by rw[←obk];exact e.symm))⟩
         ·simp only[Ent.at,if_pos]
          refine⟨?_,r5'⟩
          rw[hsum,List.map_append]
          exact r3
         ·simp only[Ent.foot,if_pos] at hb
          exact r5' b hb
      ·cases h
    ·cases h
   |_=>simp[oiS] at h
  |_=>simp[oiS] at h
 |_=>simp[oiS] at h
theorem XQ {u:SV} (h:∀κ'∈u.keys,Jh σ' κ'=Jh σ κ'):QY σ' u=QY σ u:=by
 unfold QY
 split
 ·rename_i κ';rw[h κ' (by simp[SV.keys,V1.keys,V1.keys.lk])]
 ·rfl
theorem Jg8 {sz:Nat} {u:SV} (h:∀κ'∈u.keys,Jh σ' κ'=Jh σ κ'):Jk4 σ' sz u=Jk4 σ sz u:=by
 unfold Jk4
 split
 ·rename_i κ';rw[h κ' (by simp[SV.keys,V1.keys,V1.keys.lk])]
 ·rfl
theorem Jhs {ns:List Nat} {op:Op} (hs:∀x∈op.operands,Jg σ' x=Jg σ x)
  (hk:∀x∈op.operands,∀v,Jg σ x=some v→∀κ∈v.keys,Jh σ' κ=Jh σ κ):oiS T σ' ns op=oiS T σ ns op:=by
 cases op with
 | buildSlice t n ps=>
  match n with
  |0=>rfl
  |n+2=>rfl
  | 1=>
   simp only[oiS]
   split
   ·rename_i x κ' _ hps
    have hx:x∈(Op.buildSlice t 1 ps).operands:=by
     have:ps= #[(0,x)]:=by rw[←Array.toArray_toList (xs:=ps),hps]
     subst this
     simp[Op.operands]
    rw[hs x hx]
   ·rfl
 | makeFunc fn first caps=>
  cases fn with
  | func f=>
   simp only[oiS]
   split
   ·rename_i x _ hc
    have hx:x∈(Op.makeFunc (.func f) first caps).operands:=by
     have:caps= #[x]:=by rw[←Array.toArray_toList (xs:=caps),hc]
     subst this
     simp[Op.operands]
    rw[hs x hx]
   ·rfl
  |_=>rfl
 | indexAddr t x i=>
  have hx:x∈(Op.indexAddr t x i).operands:=by simp[Op.operands]
  simp only[oiS]
  rw[hs x hx,hs i (by simp[Op.operands])]
  split
  ·rename_i hv _
   rw[XQ (hk x hx _ hv)]
  ·rfl
 | load t x=>
  have hx:x∈(Op.load t x).operands:=by simp[Op.operands]
  simp only[oiS]
  rw[hs x hx]
  split
  ·rename_i κ _ _ _ hv
   rw[XQ fun κ' hκ=>hk x hx _ hv κ' (by simpa[SV.keys,V1.keys,V1.keys.lk] using hκ)]
  ·rfl
 | slice t x lo hi mx=>
  match lo,hi,mx with
  | none,some y,none=>
   have hx:x∈(Op.slice t x none (some y) none).operands:=by simp[Op.operands]
   simp only[oiS]
   rw[hs x hx,hs y (by simp[Op.operands])]
   split
   ·rename_i hv _
    rw[XQ (hk x hx _ hv)]
   ·rfl
  |some _,_,_=>rfl
  |none,none,_=>rfl
  |none,some _,some _=>rfl
 | call c=>
  obtain⟨callee,args,ts⟩:=c
  cases callee with
  | builtin b=>cases b with
   | len=>
    have e:(args[0]?).bind (Jg σ')=(args[0]?).bind (Jg σ):=by
     cases hx:args[0]? with
     |none=>rfl
     |some x=>exact hs x (by simp only[Op.operands,Call.operands,Array.mem_append];exact .inr (Array.mem_of_getElem? hx))
    simp only[oiS]
    rw[e]
    split
    ·rename_i u _ hx
     cases hx0:args[0]? with
     |none=>simp[hx0] at hx
     |some x=>
      simp only[hx0,Option.bind_some] at hx
      rw[Jg8 (hk x (by simp only[Op.operands,Call.operands,Array.mem_append];exact .inr (Array.mem_of_getElem? hx0)) u hx)]
    ·rfl
   | append=>
    simp only[oiS]
    split
    ·rename_i x y t t' κ' ha _
     have hx:x∈(Op.call ⟨.builtin .append,args,ts⟩).operands:=by simp only[Op.operands,Call.operands,Array.mem_append];exact .inr (by rw[←Array.mem_toList_iff,ha];simp)
     have hy:y∈(Op.call ⟨.builtin .append,args,ts⟩).operands:=by simp only[Op.operands,Call.operands,Array.mem_append];exact .inr (by rw[←Array.mem_toList_iff,ha];simp)
     rw[hs x hx,hs y hy]
     have ek:(Jg σ y).bind (QY σ')=(Jg σ y).bind (QY σ):=by
      cases hv:Jg σ y with
      |none=>rfl
      |some u=>exact XQ (hk y hy u hv)
     rw[ek]
     cases Nat.beq t t' with
     |false=>rfl
     | true=>
      simp only[cond_true]
      split
      ·rename_i hu _
       rw[XQ (hk x hx _ hu)]
      ·rfl
    ·rfl
   |_=>rfl
  |_=>rfl
 |_=>rfl
end Go.Gw

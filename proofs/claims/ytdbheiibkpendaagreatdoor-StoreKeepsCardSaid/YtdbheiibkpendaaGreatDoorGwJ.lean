/- Slices of truths. -/
import Derived.Test.YtdbheiibkpendaaGreatDoorGwH
namespace Go.Gw
open Go.RowKit Go.MapKept
variable {P:Program} {T:TypeId→Option TD} {B:Nat→Prop} {N:Nat} {w0:W0} {γ:Nat→Value} {σ σ':Stt} {a:Act} {w:World}
theorem JjI {e:TypeId} {l:List Bool} {v:Value} (h:w.ownsRow 0 e 1 v l.length (l.map .bool)):RdB w v l:=by
 rcases h.2 with⟨h1,h2⟩|⟨g,cap,cur,hv,_,hg,hnc,hcm,hcs,htake⟩
 ·exact .inl ⟨⟨none,h1⟩,List.length_eq_zero_iff.1 h2⟩
 ·refine .inr ⟨⟨g,0,none⟩,cap,hv,hnc,hcm,(Array.getElem?_eq_some_iff.1 hg).1,rfl,fun i hi=> ?_⟩
  exact h.cells (g:=g) (by rw[hv];rfl) i (.bool (l.getD i false)) (by simp[List.getD,hi])
theorem JbE (I:Inv B N w0 γ σ a w) {u:SV} {l:List Bool} (h:Jbr σ u=some l):RdB w (u.den γ) l:=by
 unfold Jbr at h
 split at h
 ·split at h
  ·rename_i hk;cases h;exact(I.key hk).2
  ·rename_i hk;cases h;exact(I.key hk).2.1
  ·rename_i hk;cases h;exact JjI (I.key hk).2.1
  ·cases h
 ·cases h
theorem QL {d:Option TD} {e:TypeId} (h:Je5 T d=some e):d=some (.sliceR e 1)∧T e=some .bool:=by
 unfold Je5 at h
 split at h
 ·split at h
  ·rename_i he;cases h;exact⟨rfl,he⟩
  ·cases h
 ·cases h
theorem Je9 {v:Value} {l:List Bool} (h:RdB w v l):∃ad cap,v= .slice ad l.length cap∧(0<l.length→∃a0,ad=some a0∧∀i,i<l.length→w.cell? (a0.add i)=some (.bool (l.getD i false))):=by
 rcases h with⟨⟨o,h1⟩,h2⟩|⟨a,cap,h1,_,_,_,_,h6⟩
 ·subst h2;exact⟨o,0,h1,fun h=>by cases h⟩
 ·exact⟨some a,cap,h1,fun _=>⟨a,rfl,h6⟩⟩
theorem Jdx (op:BinOp) (t:TypeId) (x y:Operand) (n:Option Addr) (l c:Nat) (b:Value):(eqGuard op t x y (.slice n l c) b).run P w= .ok () w:=by
 unfold eqGuard;split<;>rfl
theorem Jhk (hT:TOk P T) (I:Inv B N w0 γ σ a w) {ns:List Nat} (hf:∀κ∈ns,NoKey κ σ) {o:Oper} {eff:Eff} (h:bbS T σ ns o.op=some eff) (hn:eff.need):RunOk P (execOp a.eval o) w (Post B N w0 σ a eff):=by
 obtain⟨dst,op,ty,pos,after,guard⟩:=o
 simp only at h
 cases op with
 | binOp op t x y t'=>
  simp only[bbS] at h
  split at h
  ·rename_i e κ hbt hx hy
   obtain⟨hd,_⟩:=QL hbt
   have ex:a.eval x=γ κ:=(I.eval hx).1
   have ey:a.eval y= .slice none 0 0:=(I.eval hy).1
   have go:∀{l:List Bool},Jh σ κ=some (.rdbx l)→∃ad n c,γ κ= .slice (some ad) n c:=fun {l} hk=>by
    obtain⟨h1,h2⟩:=(I.key hk).2
    rcases h1 with⟨⟨o,h1⟩,_⟩|⟨ad,cap,h1,_⟩
    ·cases o with
     |none=>exact absurd h1 h2
     |some a0=>exact⟨a0,0,0,h1⟩
    ·exact⟨ad,_,cap,h1⟩
   split at h
   ·rename_i l hk
    simp only[Ju,Option.some.injEq] at h
    subst h
    obtain⟨ad,n,c,hv⟩:=go hk
    have hr:(do eqGuard .eql t x y (a.eval x) (a.eval y);binOp .eql t (a.eval x) (a.eval y):Sem Value).run P w= .ok (.bool false) w:=by
     rw[ex,ey,hv]
     simp only[Sem.run_bind,Jdx,Result.andThen_ok,binOp]
     simp[Xi (hT _ _ hd).1]
    exact Jm hr ⟨γ,rfl,⟨trivial,trivial⟩,I⟩
   ·rename_i l hk
    simp only[Ju,Option.some.injEq] at h
    subst h
    obtain⟨ad,n,c,hv⟩:=go hk
    have hr:(do eqGuard .neq t x y (a.eval x) (a.eval y);binOp .neq t (a.eval x) (a.eval y):Sem Value).run P w= .ok (.bool true) w:=by
     rw[ex,ey,hv]
     simp only[Sem.run_bind,Jdx,Result.andThen_ok,binOp]
     simp[Xi (hT _ _ hd).1]
    exact Jm hr ⟨γ,rfl,⟨trivial,trivial⟩,I⟩
   ·cases h
  ·rename_i e hbt hx hy
   obtain⟨hd,_⟩:=QL hbt
   have ex:a.eval x= .slice none 0 0:=(I.eval hx).1
   have ey:a.eval y= .slice none 0 0:=(I.eval hy).1
   have hg:∀op b,(eqGuard op t x y (.slice none 0 0) b).run P w= .ok () w:=fun op b=>Jdx op t x y none 0 0 b
   split at h
   ·simp only[Ju,Option.some.injEq] at h
    subst h
    have hr:(do eqGuard .eql t x y (a.eval x) (a.eval y);binOp .eql t (a.eval x) (a.eval y):Sem Value).run P w= .ok (.bool true) w:=by
     rw[ex,ey]
     simp only[Sem.run_bind,hg,Result.andThen_ok,binOp]
     simp[XL (hT _ _ hd).1]
    exact Jm hr ⟨γ,rfl,⟨trivial,trivial⟩,I⟩
   ·simp only[Ju,Option.some.injEq] at h
    subst h
    have hr:(do eqGuard .neq t x y (a.eval x) (a.eval y);binOp .neq t (a.eval x) (a.eval y):Sem Value).run P w= .ok (.bool false) w:=by
     rw[ex,ey]
     simp only[Sem.run_bind,hg,Result.andThen_ok,binOp]
     simp[XL (hT _ _ hd).1]
    exact Jm hr ⟨γ,rfl,⟨trivial,trivial⟩,I⟩
   ·cases h
  ·cases h
 | buildSlice t n ps=>
  cases n with
  |succ n=>simp[bbS] at h
  | zero=>
   simp only[bbS] at h
   split at h
   ·rename_i e κ' hbt
    obtain⟨hd,_⟩:=QL hbt
    cases hp:Nat.beq ps.size 0 with
    |false=>simp[hp] at h
    | true=>
     simp only[hp,cond_true,Option.some.injEq] at h
     subst h
     have hps:ps= #[]:=Array.eq_empty_of_size_eq_zero (Nat.eq_of_beq_eq_true hp)
     subst hps
     obtain⟨t1,i,z,hi,hisz,hz,hzs,hby,hp1,_⟩:=VZ (hT t _ hd)
     have hs:(sizeOf e).run P w= .ok 1 w:=Vz (by simp[hi,hisz]) w
     have hr:(Instr.buildSlice t 0 ((#[]:Array (Nat×Operand)).map fun p=>(p.1,a.eval p.2))).run P w= .ok (.slice (some ⟨w.heap.size,0,none⟩) 0 0) (w.alloc (.cells #[] e)):=by
      unfold Instr.buildSlice
      have hr0:Array.range 0= #[]:=rfl
      simp[run_underlying t1,hs,Instr.fill,newRow,hr0]
     refine Jm hr ⟨fun x=>if x=κ' then .slice (some ⟨w.heap.size,0,none⟩) 0 0 else γ x,by simp[SV.den,V1.den,Leaf.cells],⟨trivial,trivial⟩,I.fresh (hf κ' (by simp)) rfl ⟨rfl,rfl,rfl,by simp,fun k hk _=>heap_alloc_old w _ k hk⟩ ⟨?_,?_⟩ ?_⟩
     ·simp only[if_pos]
      exact⟨rfl,.inr ⟨w.heap.size,0, #[],rfl,Nat.zero_le _,heap_alloc_new w _,Nat.le_refl _,by simp[maxLen],rfl,rfl⟩⟩
     ·intro b hb
      simp[Jw] at hb
      omega
     ·intro b hb
      simp[Ent.foot,Jw] at hb
      omega
   ·cases h
 | indexAddr t x i=>
  simp only[bbS] at h
  split at h
  ·rename_i e κ kj j hbt hx hi
   cases hr:Jbr σ (.v (.one (.slc κ))) with
   |none=>simp[hr] at h
   | some l=>
    simp only[hr,Option.bind_some,Vp,Option.some.injEq] at h
    subst h
    obtain⟨h0,h1⟩:0≤j∧j<l.length:=hn
    obtain⟨hd,_⟩:=QL hbt
    obtain⟨ad,cap,q1,q2⟩:=Je9 (JbE I hr)
    obtain⟨a0,rfl,q3⟩:=q2 (by omega)
    obtain⟨t1,inf,z,i1,i2,_⟩:=VZ (hT t _ hd)
    have q1:γ κ= .slice (some a0) l.length cap:=q1
    have e1:a.eval x= .slice (some a0) l.length cap:=(I.eval hx).1.trans q1
    have e2:a.eval i= .int kj j:=(I.eval hi).1
    have hrun:(Instr.indexAt t (a.eval x) (a.eval i)).run P w= .ok (JM (γ κ) (j.toNat*1+0)) w:=by
     rw[e1,e2,q1]
     simp[Instr.indexAt,asIntOf,run_underlying t1,h0,h1,Vz (P:=P) (t:=e) (n:=1) (by simp[i1,i2]),JM]
    exact Jm hrun ⟨γ,rfl,⟨h0,trivial⟩,I⟩
  ·cases h
 | load t x=>
  simp only[bbS] at h
  split at h
  ·rename_i κ i hd hx
   cases hr:Jbr σ (.v (.one (.slc κ))) with
   |none=>simp[hr] at h
   |some l=>
    simp only[hr,Option.bind_some,Vp,Option.some.injEq] at h
    subst h
    have h1:i<l.length:=hn
    have ex:=I.eval hx
    have h0:0≤i:=ex.2.1
    obtain⟨ad,cap,q1,q2⟩:=Je9 (JbE I hr)
    obtain⟨a0,rfl,q3⟩:=q2 (by omega)
    have q1:γ κ= .slice (some a0) l.length cap:=q1
    have hc:=q3 i.toNat (by omega)
    have:=WZ (P:=P) (t:=t) (Yt (hT t _ hd) w) hc
    refine Jm (v:= .bool (l.getD i.toNat false)) (w':=w) ?_ ⟨γ,rfl,⟨trivial,trivial⟩,I⟩
    rw[ex.1]
    simp only[SV.den,V1.den,Leaf.cells,List.headD_cons,q1,JM,Nat.mul_one,Nat.add_zero,Instr.loadAt,Instr.sureAddr,Sem.run_bind,Sem.run_pure,Result.andThen_ok]
    exact this
  ·cases h
 | call c=>
  obtain⟨callee,args,ts⟩:=c
  cases callee with
  | builtin b=>cases b with
   | len=>
    simp only[bbS] at h
    split at h
    ·rename_i e u hbt hx
     cases hr:Jbr σ u with
     |none=>simp[hr] at h
     | some l=>
      simp only[hr,Option.bind_some,Ju,Option.some.injEq] at h
      subst h
      obtain⟨hd,_⟩:=QL hbt
      cases ht0:ts[0]? with
      |none=>simp[ht0] at hd
      |some t=>
      simp only[ht0,Option.bind_some] at hd
      cases ha0:args[0]? with
      |none=>simp[ha0] at hx
      |some x=>
      simp only[ha0,Option.bind_some] at hx
      obtain⟨ad,cap,q1,_⟩:=Je9 (JbE I hr)
      obtain⟨t1,_⟩:=VZ (hT t _ hd)
      have e1:a.eval x= .slice ad l.length cap:=(I.eval hx).1.trans q1
      have hrun:(Builtin.len_ ts ty (args.map a.eval)).run P w= .ok (.int .i64 l.length) w:=by
       simp[Builtin.len_,ht0,ha0,run_underlying t1,goInt,e1]
      have hex:execOp a.eval ⟨dst,.call ⟨.builtin .len,args,ts⟩,ty,pos,after,guard⟩=(do pure (.value (←Builtin.len_ ts ty (args.map a.eval)))):=rfl
      rw[hex]
      exact Jm hrun ⟨γ,rfl,⟨trivial,trivial⟩,I⟩
    ·cases h
   | append=>
    simp only[bbS] at h
    split at h
    ·rename_i x y t t' κ' ha0 ht0
     cases htt:Nat.beq t t' with
     |false=>simp[htt] at h
     | true=>
      obtain rfl:=Nat.eq_of_beq_eq_true htt
      simp only[htt,cond_true] at h
      have ea:args= #[x,y]:=by rw[←Array.toArray_toList (xs:=args),ha0]
      have et:ts= #[t,t]:=by rw[←Array.toArray_toList (xs:=ts),ht0]
      subst ea;subst et
      split at h
      ·rename_i e κ u hbt hx hy
       split at h
       ·rename_i e' l l2 hk hr
        cases hee:Nat.beq e e' with
        |false=>simp[hee] at h
        |true=>
         obtain rfl:=Nat.eq_of_beq_eq_true hee
         simp only[hee,cond_true,Option.some.injEq] at h
         subst h
         have hlen:l.length+l2.length≤YJ:=hn
         obtain⟨hd,_⟩:=QL hbt
         have hk':=I.key hk
         have hy':=JkZ (JbE I hr)
         obtain⟨v',w',r1,r2,r3,r4,r5⟩:=QE (P:=P) (t:=t) (ty:=ty) (hT t _ hd) rfl hk'.2.1 hy' (by simp) (fun u hu=>by obtain⟨b,_,rfl⟩:=List.mem_map.1 hu;rfl) hlen
         have ex:a.eval x=γ κ:=(I.eval hx).1
         have ey:=(I.eval hy).1
         have obk:(γ κ).ownBlock=Jw (γ κ):=(QF hk'.2.1).2
         have hex:execOp a.eval ⟨dst,.call ⟨.builtin .append, #[x,y], #[t,t]⟩,ty,pos,after,guard⟩=(do pure (.value (←Builtin.append_ #[t,t] ty (#[x,y].map a.eval)))):=rfl
         rw[hex]
         have r5':∀b,Jw v'=some b→w.heap.size≤b∨Jw (γ κ)=some b:=fun b hb=>(r5 b hb).symm
         refine Jm (v:=v') (w':=w') (by simpa[ex,ey] using r1) ⟨fun x=>if x=κ' then v' else γ x,by simp[SV.den,V1.den,Leaf.cells],⟨trivial,trivial⟩,WR I hk'.1 rfl (hf κ' (by simp)) r2 ?_ ⟨by simpa using r3,fun b hb=>r5' b (by simpa using hb)⟩ fun b hb=>r5' b (by simpa[Ent.foot] using hb)⟩
         exact⟨r4.os,r4.tape,r4.output,r4.size,fun b hb hn=>r4.block b hb fun e=>hn (.inr (by rw[←obk];exact e.symm))⟩
       ·cases h
      ·cases h
    ·cases h
   |_=>simp[bbS] at h
  |_=>simp[bbS] at h
 |_=>simp[bbS] at h
theorem Qb {u:SV} (h:∀κ'∈u.keys,Jh σ' κ'=Jh σ κ'):Jbr σ' u=Jbr σ u:=by
 unfold Jbr
 split
 ·rename_i κ';rw[h κ' (by simp[SV.keys,V1.keys,V1.keys.lk])]
 ·rfl
theorem Jh0 {ns:List Nat} {op:Op} (hs:∀x∈op.operands,Jg σ' x=Jg σ x)
  (hk:∀x∈op.operands,∀v,Jg σ x=some v→∀κ∈v.keys,Jh σ' κ=Jh σ κ):bbS T σ' ns op=bbS T σ ns op:=by
 cases op with
 |binOp op t x y t'=>
  simp only[bbS]
  rw[hs x (by simp[Op.operands]),hs y (by simp[Op.operands])]
  split
  ·rename_i κ _ hx _;rw[hk x (by simp[Op.operands]) _ hx κ (by simp[SV.keys,V1.keys,V1.keys.lk])]
  ·rfl
  ·rfl
 |buildSlice t n ps=>cases n<;>rfl
 |indexAddr t x i=>
  simp only[bbS]
  rw[hs x (by simp[Op.operands]),hs i (by simp[Op.operands])]
  split
  ·rename_i κ _ _ _ hx _;rw[Qb (hk x (by simp[Op.operands]) _ hx)]
  ·rfl
 | load t x=>
  simp only[bbS]
  rw[hs x (by simp[Op.operands])]
  split
  ·rename_i κ i _ hx
   rw[Qb (u:= .v (.one (.slc κ))) fun κ' hκ'=>hk x (by simp[Op.operands]) _ hx κ' (by simpa[SV.keys,V1.keys,V1.keys.lk] using hκ')]
  ·rfl
 | call c=>
  obtain⟨callee,args,ts⟩:=c
  cases callee with
  | builtin b=>cases b with
   | len=>
    have e:(args[0]?).bind (Jg σ')=(args[0]?).bind (Jg σ):=by
     cases hx:args[0]? with
     |none=>rfl
     |some x=>exact hs x (by simp only[Op.operands,Call.operands,Array.mem_append];exact .inr (Array.mem_of_getElem? hx))
    simp only[bbS]
    rw[e]
    split
    ·rename_i u _ hx
     cases hx0:args[0]? with
     |none=>simp[hx0] at hx
     |some x=>
      simp only[hx0,Option.bind_some] at hx
      rw[Qb (hk x (by simp only[Op.operands,Call.operands,Array.mem_append];exact .inr (Array.mem_of_getElem? hx0)) u hx)]
    ·rfl
   | append=>
    simp only[bbS]
    split
    ·rename_i x y t t' κ' ha _
     have hx:x∈(Op.call ⟨.builtin .append,args,ts⟩).operands:=by simp only[Op.operands,Call.operands,Array.mem_append];exact .inr (by rw[←Array.mem_toList_iff,ha];simp)
     have hy:y∈(Op.call ⟨.builtin .append,args,ts⟩).operands:=by simp only[Op.operands,Call.operands,Array.mem_append];exact .inr (by rw[←Array.mem_toList_iff,ha];simp)
     rw[hs x hx,hs y hy]
     cases Nat.beq t t' with
     |false=>rfl
     | true=>
      simp only[cond_true]
      split
      ·rename_i hu hv
       rw[hk x hx _ hu _ (by simp[SV.keys,V1.keys,V1.keys.lk]),Qb (hk y hy _ hv)]
      ·rfl
    ·rfl
   |_=>rfl
  |_=>rfl
 |_=>rfl
end Go.Gw

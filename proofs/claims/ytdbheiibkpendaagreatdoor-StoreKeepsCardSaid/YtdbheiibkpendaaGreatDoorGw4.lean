/- The walk's engine, part 4: loads, stores, literals; the whole step. -/
import Derived.Test.YtdbheiibkpendaaGreatDoorGw3
namespace Go.Gw
open Go.RowKit
variable {P:Program} {T:TypeId→Option TD} {B:Nat→Prop} {N:Nat} {w0:W0} {γ:Nat→Value} {σ:Stt} {a:Act} {w:World}
theorem Jn (b off i:Nat):(⟨b,off,none⟩:Addr).add i=⟨b,off+i,none⟩:=by unfold Addr.add;split<;>simp_all
theorem Jfo {t:TypeId} {b off:Nat} {c:Array Value} {ty:TypeId} {fr:Nat×Nat} {cs:List Value} (hg:w.heap[b]? =some (.cells c ty fr)) (hagg:(isAgg t).run P w= .ok true w)
  (hs:(sizeOf t).run P w= .ok cs.length w) (hc:∀j v,cs[j]? =some v→c[off+j]? =some v):(loadVar t ⟨b,off,none⟩).run P w= .ok (.agg cs.toArray) w:=by
 have hl:=run_loadCells_list (P:=P) w ⟨b,off,none⟩ cs fun j v hv=>by
  rw[Jn,cell_of_row w b _ c ty fr hg]
  exact hc j v hv
 simp[loadVar,hagg,hs,hl]
theorem WZ {t:TypeId} {ad:Addr} {v:Value} (hagg:(isAgg t).run P w= .ok false w) (hc:w.cell? ad=some v):(loadVar t ad).run P w= .ok v w:=by
 simp[loadVar,hagg,load,Sem.run,hc]
theorem XV {t:TypeId} {b off:Nat} {ty:TypeId} {A M Z:List Value} {v:Value} (hg:w.heap[b]? =some (.cells (A++(M++Z)).toArray ty (0,0))) (hA:A.length=off)
  (hs:(sizeOf t).run P w= .ok M.length w) (hv:v.cells.size=M.length) (h1:∀x∈v.cells.toList,x.oneCell'=true):
  (storeVar t ⟨b,off,none⟩ v).run P w= .ok () (w.setRow b (A++(v.cells.toList++Z)).toArray):=by
 have:=run_storeCells_at P b off ty v.cells.toList 0 (A++(M++Z)).toArray w hg (by simp;omega) h1
 have e1:(A++(M++Z)).take off=A:=by rw[←hA];exact List.take_left
 have e2:(A++(M++Z)).drop (off+v.cells.size)=Z:=by
  rw[←List.drop_drop,←hA,List.drop_left,hv]
  exact List.drop_left
 simp only[Nat.add_zero,Array.length_toList,e1,e2,List.append_assoc] at this
 simp[storeVar,hs,hv,this]
def TD.isA:TD→Bool
 | .arr ..| .struct ..| .arrG ..=>true
 |_=>false
theorem Yt {t:TypeId} {d:TD} (h:d.ok P t) (w:World):(isAgg t).run P w= .ok d.isA w:=by
 cases d with
 |int k=>simp[isAgg,run_underlying h.1,TD.isA]
 |bool=>simp[isAgg,run_underlying h.1,TD.isA]
 |str=>simp[isAgg,run_underlying h.1,TD.isA]
 |arr n e k=>simp[isAgg,run_underlying h.1,TD.isA]
 |struct n o z=>obtain⟨fs,h1,_⟩:=h;simp[isAgg,run_underlying h1,TD.isA]
 |slice e k=>simp[isAgg,run_underlying h.1,TD.isA]
 |sliceR e k=>simp[isAgg,run_underlying h.1,TD.isA]
 |arrG n e s z=>simp[isAgg,run_underlying h.1,TD.isA]
 |mapP=>obtain⟨k,e,e',h1,_⟩:=h;simp[isAgg,run_underlying h1,TD.isA]
 |ptr=>obtain⟨e,h1,_⟩:=h;simp[isAgg,run_underlying h1,TD.isA]
 |ifc=>obtain⟨e,h1,_⟩:=h;simp[isAgg,run_underlying h1,TD.isA]
def TD.sz:TD→Nat
 | .arr n _ _=>n
 | .struct n _ _=>n
 | .arrG n _ sz _=>n*sz
 |_=>1
theorem Jbi {t:TypeId} {d:TD} (h:d.ok P t) (w:World):(sizeOf t).run P w= .ok d.sz w:=by
 cases d with
 |int k=>exact(VO h.2 w).1
 |bool=>exact(VO h.2 w).1
 |str=>exact(VO h.2 w).1
 |arr n e k=>exact(VO h.2.2.1 w).1
 |struct n o z=>obtain⟨fs,_,_,h1,_⟩:=h;exact(VO (h1 fun _=>default) w).1
 |slice e k=>exact(VO h.2.2.2 w).1
 |sliceR e k=>exact(VO h.2.2.1 w).1
 |arrG n e s z=>exact(VO (h.2.2.2.1 fun _=>default) w).1
 |mapP=>obtain⟨k,e,e',_,_,_,_,h1⟩:=h;exact(VO h1 w).1
 |ptr=>obtain⟨e,_,h1⟩:=h;exact(VO h1 w).1
 |ifc=>obtain⟨e,_,h1⟩:=h;exact(VO h1 w).1
theorem JdB {A M Z:List Value} {off j:Nat} {v:Value} (hA:A.length=off) (h:M[j]? =some v):(A++(M++Z)).toArray[off+j]? =some v:=by
 have hj:j<M.length:=by
  rcases Nat.lt_or_ge j M.length with h'|h'
  ·exact h'
  ·rw[List.getElem?_eq_none h'] at h;cases h
 simp only[List.getElem?_toArray]
 rw[List.getElem?_append_right (by omega),List.getElem?_append_left (by omega),←h]
 congr 1
 omega
def BlkAt (γ:Nat→Value) (w:World) (κ:Nat) (ty:TypeId) (ls:List Leaf):Prop:=∃b fr,γ κ= .pointer (some ⟨b,0,none⟩)∧w.heap[b]? =some (.cells (Jq γ ls).toArray ty fr)∧∀x∈ls,x.ok
theorem BlkAt.of {ty:TypeId} {ls:List Leaf} {κ:Nat} (h:(Ent.blk ty ls).at B γ w κ):BlkAt γ w κ ty ls:=let ⟨b,h1,_,h3,h4⟩:=h;⟨b,_,h1,h3,h4⟩
theorem Jbp {t:TypeId} {d:TD} {κ off n:Nat} {ty:TypeId} {ls r m z:List Leaf} (hd:d.ok P t) (hA:d.isA=true) (hn:d.sz=n) (hk:BlkAt γ w κ ty ls)
  (h1:JcG ls off=some r) (h2:YU r n=some (m,z)):
  (Instr.loadAt t ((SV.v (.one (.ptr κ off))).den γ)).run P w= .ok ((SV.v (.agg m)).den γ) w∧(SV.v (.agg m)).ok:=by
 obtain⟨b,fr,hb,hg,hok⟩:=hk
 obtain⟨p,e1,e2⟩:=JcY ls off r h1
 obtain⟨e3,e4⟩:=Xg r n m z h2
 subst e3;subst e1
 have okp:∀x∈p,x.ok:=fun x hx=>hok x (by simp[hx])
 have okm:∀x∈m,x.ok:=fun x hx=>hok x (by simp[hx])
 refine⟨?_,okm⟩
 have hbk:bk γ κ=b:=by simp[bk,hb]
 rw[JF,JF] at hg
 have:=Jfo (P:=P) (w:=w) (t:=t) (off:=off) (cs:=Jq γ m) hg (hA▸Yt hd w) (by rw[Vq okm,e4,←hn];exact Jbi hd w)
  (fun j v hv=>JdB (by rw[Vq okp,e2]) hv)
 simp only[SV.den,V1.den,Leaf.cells,List.headD_cons,hbk,Instr.loadAt,Instr.sureAddr,Sem.run_bind,Sem.run_pure,Result.andThen_ok]
 exact this
theorem Jbe {t:TypeId} {d:TD} {κ off:Nat} {ty:TypeId} {ls:List Leaf} {x:Leaf} (hd:d.ok P t) (hA:d.isA=false) (hk:BlkAt γ w κ ty ls)
  (h1:Xy ls off=some x) (hx:x.lone):
  (Instr.loadAt t ((SV.v (.one (.ptr κ off))).den γ)).run P w= .ok ((SV.v (.one x)).den γ) w∧(SV.v (.one x)).ok:=by
 obtain⟨b,fr,hb,hg,hok⟩:=hk
 obtain⟨p,r,e1,e2,_⟩:=WX ls off x h1
 subst e1
 have okp:∀x∈p,x.ok:=fun x hx=>hok x (by simp[hx])
 refine⟨?_,hok x (by simp),hx⟩
 have hbk:bk γ κ=b:=by simp[bk,hb]
 rw[JF,JP] at hg
 have hc:w.cell? ⟨b,off,none⟩=some ((x.cells γ).headD undef):=by
  rw[cell_of_row w b off _ ty fr hg]
  have:=JdB (A:=Jq γ p) (M:=x.cells γ) (Z:=Jq γ r) (j:=0) (off:=off) (v:=(x.cells γ).headD undef) (by rw[Vq okp,e2]) (by rw[WB hx];simp)
  simpa using this
 have:=WZ (P:=P) (t:=t) (hA▸Yt hd w) hc
 simp only[SV.den,V1.den,Leaf.cells,List.headD_cons,hbk,Instr.loadAt,Instr.sureAddr,Sem.run_bind,Sem.run_pure,Result.andThen_ok]
 exact this
theorem Jfp {t:TypeId} {κ base n:Nat} {i:Int} {ty:TypeId} {ls:List Leaf} {k:IntKind} {l:List Int} (hd:(TD.int k).ok P t) (hk:BlkAt γ w κ ty ls)
  (h1:Xy ls base=some (.arr k n l)) (hi0:0≤i) (hi1:i<n):
  (Instr.loadAt t ((SV.v (.one (.pe κ base n i))).den γ)).run P w= .ok ((Yn k (l.getD i.toNat 0)).den γ) w:=by
 obtain⟨b,fr,hb,hg,hok⟩:=hk
 obtain⟨p,r,e1,e2,_⟩:=WX ls base _ h1
 subst e1
 have okp:∀x∈p,x.ok:=fun x hx=>hok x (by simp[hx])
 have hl:l.length=n:=hok (.arr k n l) (by simp)
 have hbk:bk γ κ=b:=by simp[bk,hb]
 rw[JF,JP] at hg
 have hc:w.cell? ⟨b,base+i.toNat,none⟩=some (.int k (l.getD i.toNat 0)):=by
  rw[cell_of_row w b _ _ ty fr hg]
  refine JdB (by rw[Vq okp,e2]) ?_
  have:i.toNat<l.length:=by omega
  simp[Leaf.cells,List.getD,this]
 have:=WZ (P:=P) (t:=t) (Yt hd w) hc
 simp only[SV.den,V1.den,Leaf.cells,List.headD_cons,hbk,Instr.loadAt,Instr.sureAddr,Sem.run_bind,Sem.run_pure,Result.andThen_ok]
 exact this
theorem RdI.get {v:Value} {k:IntKind} {l:List Int} (h:RdI w v k l) {i:Nat} (hi:i<l.length):∃ad,JM v i= .pointer (some ad)∧w.cell? ad=some (.int k (l.getD i 0)):=by
 rcases h with⟨_,rfl⟩|⟨a,cap,rfl,_,_,_,_,h⟩
 ·simp at hi
 ·exact⟨_,rfl,h i hi⟩
theorem RdI.two {v:Value} {k:IntKind} {l:List Int} (h:RdI w v k l):(v= .slice none 0 0∧l=[])∨∃a cap,v= .slice (some a) l.length cap∧∀i,i<l.length→w.cell? (a.add i)=some (.int k (l.getD i 0)):=by
 rcases h with⟨⟨o,rfl⟩,rfl⟩|⟨a,cap,rfl,_,_,_,_,g5⟩
 ·cases o with
  |none=>exact .inl ⟨rfl,rfl⟩
  |some a=>exact .inr ⟨a,0,rfl,fun i hi=>by simp at hi⟩
 ·exact .inr ⟨a,cap,rfl,g5⟩
theorem Ql {B:Nat} {e:TypeId} {k:IntKind} {l:List Int} {v:Value} (h:w.ownsRow B e 1 v l.length (l.map (.int k))):RdI w v k l:=by
 rcases h.2 with⟨h1,h2⟩|⟨g,cap,cur,h1,h2,h3,h4,h5,h6,h7⟩
 ·exact .inl ⟨⟨none,h1⟩,List.length_eq_zero_iff.1 h2⟩
 ·refine .inr ⟨⟨g,0,none⟩,cap,h1,h4,h5,(Array.getElem?_eq_some_iff.1 h3).1,rfl,fun i hi=> ?_⟩
  have:=World.ownsRow.cells h (g:=g) (by simp[h1,Value.ownBlock]) i (.int k (l.getD i 0)) (by simp[List.getD,hi])
  exact this
theorem YZ {a:Addr} (h:a.spot=none) (m n:Nat):(a.add m).add n=a.add (m+n):=by
 obtain⟨b,o,s⟩:=a
 simp only at h
 subst h
 rw[Jn,Jn,Jn,Nat.add_assoc]
theorem RdR.get {v:Value} {r:RowsK} (h:RdR w v r) {j:Nat} {d:DL} (hj:r.cells[j]? =some d):
  ∃a len cap u,v= .slice (some a) len cap∧a.spot=none∧JM v j= .pointer (some (a.add j))∧w.cell? (a.add j)=some u∧u.oneCell'=true∧d.at w u∧∀b,YP u=some b→Inner w v (r.len*r.sz) b:=by
 have hlt:j<r.len*r.sz:=by
  rw[←RowsK.cells_len]
  rcases Nat.lt_or_ge j r.cells.length with h'|h'
  ·exact h'
  ·rw[List.getElem?_eq_none h'] at hj;cases hj
 rcases h with⟨_,h0⟩|⟨a,cap,h1,_,_,_,h5,h6⟩
 ·rw[h0] at hlt;simp at hlt
 ·obtain⟨u,g1,g2,g3⟩:=h6 j d hj
  exact⟨a,_,cap,u,h1,h5,by rw[h1];rfl,g1,g2,g3,fun b hb=>⟨a,_,cap,j,u,h1,hlt,g1,hb⟩⟩
theorem Jkz {k:IntKind} {ll:List (List Int)} {i:Nat} (h:i<ll.length):(RowsK.bs k ll).cells[i]? =some (.bytes k (ll.getD i [])):=by simp[RowsK.cells,h]
theorem Jc7 (ll:List (Int×List Int)):∀(i:Nat),i<ll.length→(RowsK.rc ll).cells[i*2]? =some (.int .i64 (ll.getD i (0,[])).1)∧(RowsK.rc ll).cells[i*2+1]? =some (.bytes .u8 (ll.getD i (0,[])).2):=by
 simp only[RowsK.cells]
 induction ll with
 |nil=>intro i h;simp at h
 | cons x r ih=>
  intro i h
  cases i with
  |zero=>simp
  |succ i=>
   have:=ih i (by simpa using h)
   have e1:(i+1)*2=i*2+1+1:=by omega
   rw[e1]
   simpa using this
def Jls:Ent→Option RowsK
 | .rows r=>some r
 | .orows _ r=>some r
 |_=>none
def Jk1:Ent→Option RowsK
 | .rows r=>some r
 | .orows _ r=>some r
 | .frows _ _ _ r=>some r
 |_=>none
theorem Jdo {κ:Nat} {e:Ent} {r:RowsK} (he:Jls e=some r) (h:e.at B γ w κ):
  RdR w (γ κ) r∧∀b,Inner w (γ κ) (r.len*r.sz) b→e.foot γ w κ b∧(e.mut=true→¬e.reg γ w κ b):=by
 cases e with
 |rows r'=>cases he;exact⟨h,fun b hb=>⟨.inr hb,fun h=>by cases h⟩⟩
 |orows e r'=>cases he;exact⟨h.1,fun b hb=>⟨.inr hb,fun _=>(h.2.2.2 b hb).2⟩⟩
 |_=>cases he
def Jd5 (hint:Hint) (σ:Stt):Prop:=
 match hint with
 | .key κ| .dk κ _| .lk κ=>NoKey κ σ
 | .call ks _ news=>∀p∈news,NoKey p.1 σ∨ks.any (Nat.beq p.1)=true
 | .ar _ ns=>(∀κ∈ns,NoKey κ σ)∧ns.Nodup
 | .arN κ ns=>NoKey κ σ∧(∀κ∈ns,NoKey κ σ)∧(κ::ns).Nodup
 | .bb ns=>(∀κ∈ns,NoKey κ σ)∧ns.Nodup
 | .of ns=>(∀κ∈ns,NoKey κ σ)∧ns.Nodup
 | .oi ns=>(∀κ∈ns,NoKey κ σ)∧ns.Nodup
 | .arW _ ns=>(∀κ∈ns,NoKey κ σ)∧ns.Nodup
 | .gk ks=>(∀κ∈ks.flatMap GK.keys,NoKey κ σ)∧(ks.flatMap GK.keys).Nodup
 | .callA ks _ news=>∀p∈news,NoKey p.1 σ∨(ks.any fun q=>Nat.beq q.1 p.1)=true
 |_=>True
theorem JcN {v:SV} (I:Inv B N w0 γ σ a w) (h:v.ok) {p:List Prop}:Post B N w0 σ a ⟨some v,[],p⟩ (v.den γ) w:=⟨γ,rfl,h,I⟩
theorem Jgc (I:Inv B N w0 γ σ a w) {κ κ':Nat} {e:Ent} {r:RowsK} (hk:σ (.h κ)=some (.e e)) (he:Jls e=some r) (hf:NoKey κ' σ) {k:IntKind} {l:List Int} {j:Nat} (hj:r.cells[j]? =some (.bytes k l)):
  ∃a1 len cap u,γ κ= .slice (some a1) len cap∧a1.spot=none∧w.cell? (a1.add j)=some u∧Inv B N w0 (fun x=>if x=κ' then u else γ x) (Wl σ [(κ',.rd k l)]) a w:=by
 obtain⟨h1,h2⟩:=Jdo he (I.ent κ e hk)
 obtain⟨a1,len,cap,u,g1,g2,g3,g4,g5,g6,g7⟩:=h1.get hj
 refine⟨a1,len,cap,u,g1,g2,g4,I.alias hf g5 rfl (by simpa[Ent.at,DL.at] using g6) fun b hb=> ?_⟩
 have hb':YP u=some b:=by simpa[Ent.foot] using hb
 exact⟨κ,e,hk,(h2 b (g7 b hb')).1,(h2 b (g7 b hb')).2⟩
theorem Jj6 {w:World} {e:TypeId} {sz n:Nat} {v:Value} {xs:List Value} (h:w.ownsRow 0 e sz v n xs):v.ownBlock=Jw v∧v.oneCell'=true:=by
 rcases h.2 with⟨rfl,_⟩|⟨g,cap,cur,rfl,_⟩<;>exact⟨rfl,rfl⟩
theorem JjC (hT:TOk P T) (I:Inv B N w0 γ σ a w) {t:TypeId} {u:SV} {eff:Eff} {hint:Hint} (hf:Jd5 hint σ) (hu:u.ok) (h:JgS T (Jh σ) hint t u=some eff) (hn:eff.need):
  ∃v,(Instr.loadAt t (u.den γ)).run P w= .ok v w∧Post B N w0 σ a eff v w:=by
 unfold JgS at h
 split at h
 ·rename_i κ off
  have agg:∀(ty:TypeId) (ls:List Leaf) (d:TD),T t=some d→d.isA=true→BlkAt γ w κ ty ls→
    (match JcG ls off with|some r=>(match YU r d.sz with|some (m,_)=>Ju (.v (.agg m))|none=>none)|none=>none)=some eff→
    ∃v,(Instr.loadAt t ((SV.v (.one (.ptr κ off))).den γ)).run P w= .ok v w∧Post B N w0 σ a eff v w:=by
   intro ty ls d hd hA hb h
   split at h
   ·rename_i r h1
    split at h
    ·rename_i m z h2
     simp only[Ju,Option.some.injEq] at h
     subst h
     obtain⟨h3,h4⟩:=Jbp (hT t _ hd) hA rfl hb h1 h2
     exact⟨_,h3,JcN I h4⟩
    ·cases h
   ·cases h
  have one:∀(ty:TypeId) (ls:List Leaf) (d:TD),T t=some d→d.isA=false→BlkAt γ w κ ty ls→
    (match Xy ls off with|some (.arr ..)=>none|some x=>Ju (.v (.one x))|none=>none)=some eff→
    ∃v,(Instr.loadAt t ((SV.v (.one (.ptr κ off))).den γ)).run P w= .ok v w∧Post B N w0 σ a eff v w:=by
   intro ty ls d hd hA hb h
   split at h
   ·cases h
   ·rename_i x hx h1
    simp only[Ju,Option.some.injEq] at h
    subst h
    obtain⟨h3,h4⟩:=Jbe (hT t d hd) hA hb h1 (by cases x<;>first|trivial|exact(hx _ _ _ rfl).elim)
    exact⟨_,h3,JcN I h4⟩
   ·cases h
  split at h
  ·rename_i ty ls n e k hk hd;exact agg ty ls _ hd rfl (.of (I.key hk).2) h
  ·rename_i ty ls n e k hk hd;exact agg ty ls _ hd rfl (.of (I.key hk).2) h
  ·rename_i ty ls n e k hk hd;exact agg ty ls _ hd rfl (I.key hk).2 h
  ·rename_i ty ls n e k hk hd;exact agg ty ls _ hd rfl (I.key hk).2 h
  ·cases h
  ·cases h
  ·rename_i ty ls d _ _ _ hk hd
   have hA:d.isA=false:=by cases d<;>first|rfl|(exfalso;simp_all;done)|(exfalso;simp_all;exact ‹∀(n:Nat) (e:TypeId) (sz:Nat) (z:List Leaf),_=n→_=e→_=sz→¬_=z› _ _ _ _ rfl rfl rfl rfl)
   exact one ty ls d hd hA (.of (I.key hk).2) h
  ·rename_i ty ls d _ _ _ hk hd
   have hA:d.isA=false:=by cases d<;>first|rfl|(exfalso;simp_all;done)|(exfalso;simp_all;exact ‹∀(n:Nat) (e:TypeId) (sz:Nat) (z:List Leaf),_=n→_=e→_=sz→¬_=z› _ _ _ _ rfl rfl rfl rfl)
   exact one ty ls d hd hA (I.key hk).2 h
  ·cases h
 ·rename_i κ base n i
  obtain⟨⟨hi0,hi1⟩,_⟩:(0≤i∧i<n)∧True:=hu
  have pe:∀(ty:TypeId) (ls:List Leaf) (k:IntKind),T t=some (.int k)→BlkAt γ w κ ty ls→
    (match Xy ls base with|some (.arr k' n' l)=>bif keq k k'&&Nat.beq n n' then Ju (Yn k (l.getD i.toNat 0)) else none|_=>none)=some eff→
    ∃v,(Instr.loadAt t ((SV.v (.one (.pe κ base n i))).den γ)).run P w= .ok v w∧Post B N w0 σ a eff v w:=by
   intro ty ls k hd hb h
   split at h
   ·rename_i k' n' l h1
    cases hc:(keq k k'&&Nat.beq n n') with
    |false=>simp[hc] at h
    |true=>
     simp only[hc,cond_true,Ju,Option.some.injEq] at h
     subst h
     simp only[Bool.and_eq_true] at hc
     obtain rfl:=WF hc.1
     obtain rfl:=Nat.eq_of_beq_eq_true hc.2
     exact⟨_,Jfp (hT t _ hd) hb h1 hi0 hi1,JcN (v:=Yn _ _) I ⟨trivial,trivial⟩⟩
   ·cases h
  split at h
  ·rename_i ty ls k hk hd;exact pe ty ls k hd (.of (I.key hk).2) h
  ·rename_i ty ls k hk hd;exact pe ty ls k hd (I.key hk).2 h
  ·cases h
 ·rename_i κ sz i off
  obtain⟨hi0,_⟩:0≤i∧True:=hu
  have num:∀(k:IntKind) (l:List Int) (k':IntKind),RdI w (γ κ) k l→T t=some (.int k')→
    (bif keq k k'&&Nat.beq sz 1&&Nat.beq off 0 then Vp (Yn k (l.getD i.toNat 0)) (i<l.length) else none)=some eff→
    ∃v,(Instr.loadAt t ((SV.v (.one (.per κ sz i off))).den γ)).run P w= .ok v w∧Post B N w0 σ a eff v w:=by
   intro k l k' hr hd h
   cases hc:(keq k k'&&Nat.beq sz 1&&Nat.beq off 0) with
   |false=>simp[hc] at h
   |true=>
    simp only[hc,cond_true,Vp,Option.some.injEq] at h
    subst h
    simp only[Bool.and_eq_true] at hc
    obtain rfl:=WF hc.1.1
    obtain rfl:=Nat.eq_of_beq_eq_true hc.1.2
    obtain rfl:=Nat.eq_of_beq_eq_true hc.2
    have hn':i<l.length:=hn
    obtain⟨ad,h1,h2⟩:=hr.get (i:=i.toNat) (by omega)
    have:=WZ (P:=P) (t:=t) (Yt (hT t _ hd) w) h2
    refine⟨_,?_,JcN (v:=Yn _ _) I ⟨trivial,trivial⟩⟩
    simp only[SV.den,V1.den,Leaf.cells,List.headD_cons,Nat.mul_one,Nat.add_zero,h1,Instr.loadAt,Instr.sureAddr,Sem.run_bind,Sem.run_pure,Result.andThen_ok]
    exact this
  have run1:∀{d:TD} {a1:Addr} {len cap:Nat} {u:Value},T t=some d→d.isA=false→γ κ= .slice (some a1) len cap→w.cell? (a1.add (i.toNat*sz+off))=some u→
    (Instr.loadAt t ((SV.v (.one (.per κ sz i off))).den γ)).run P w= .ok u w:=by
   intro d a1 len cap u hd hA hv hc
   have:=WZ (P:=P) (t:=t) (hA▸Yt (hT t _ hd) w) hc
   simp only[SV.den,V1.den,Leaf.cells,List.headD_cons,hv,JM,Instr.loadAt,Instr.sureAddr,Sem.run_bind,Sem.run_pure,Result.andThen_ok]
   exact this
  have slc:∀(e:Ent) (r:RowsK) (κ':Nat) (k:IntKind) (l:List Int) (e2:TypeId) (k2:IntKind) (p:List Prop),Jh σ κ=some e→Jls e=some r→Jd5 (.key κ') σ→T t=some (.slice e2 k2)→r.cells[i.toNat*sz+off]? =some (.bytes k l)→
    ∃v,(Instr.loadAt t ((SV.v (.one (.per κ sz i off))).den γ)).run P w= .ok v w∧Post B N w0 σ a ⟨some (.v (.one (.slc κ'))),[(κ',.rd k l)],p⟩ v w:=by
   intro e r κ' k l e2 k2 p hk he hf hd hj
   obtain⟨a1,len,cap,u,g1,_,g3,I'⟩:=Jgc I (I.key hk).1 he hf hj
   exact⟨u,run1 hd rfl g1 g3,_,by simp[SV.den,V1.den,Leaf.cells],⟨trivial,trivial⟩,I'⟩
  have nn:∀{ll:Nat},i<ll→i.toNat<ll:=fun h=>by omega
  split at h
  ·rename_i _ k l k' hk hd;exact num k l k' (I.key hk).2 hd h
  ·rename_i _ k l k' hk hd;exact num k l k' (I.key hk).2.1 hd h
  ·rename_i _ e k l k' hk hd;exact num k l k' (Ql (I.key hk).2.1) hd h
  ·rename_i k ll e2 k' κ' hk hd
   cases hc:(keq k k'&&Nat.beq sz 1&&Nat.beq off 0) with
   |false=>simp[hc] at h
   |true=>
    simp only[hc,cond_true,Option.some.injEq] at h
    subst h
    simp only[Bool.and_eq_true] at hc
    obtain rfl:=Nat.eq_of_beq_eq_true hc.1.2
    obtain rfl:=Nat.eq_of_beq_eq_true hc.2
    exact slc _ _ κ' k _ _ _ _ hk rfl hf hd (by rw[Nat.mul_one,Nat.add_zero];exact Jkz (nn hn))
  ·rename_i e k ll e2 k' κ' hk hd
   cases hc:(keq k k'&&Nat.beq sz 1&&Nat.beq off 0) with
   |false=>simp[hc] at h
   |true=>
    simp only[hc,cond_true,Option.some.injEq] at h
    subst h
    simp only[Bool.and_eq_true] at hc
    obtain rfl:=Nat.eq_of_beq_eq_true hc.1.2
    obtain rfl:=Nat.eq_of_beq_eq_true hc.2
    exact slc _ _ κ' k _ _ _ _ hk rfl hf hd (by rw[Nat.mul_one,Nat.add_zero];exact Jkz (nn hn))
  ·rename_i ll e2 k' κ' hk hd
   cases hc:(keq .u8 k'&&Nat.beq sz 2&&Nat.beq off 1) with
   |false=>simp[hc] at h
   |true=>
    simp only[hc,cond_true,Option.some.injEq] at h
    subst h
    simp only[Bool.and_eq_true] at hc
    obtain rfl:=Nat.eq_of_beq_eq_true hc.1.2
    obtain rfl:=Nat.eq_of_beq_eq_true hc.2
    exact slc _ _ κ' .u8 _ _ _ _ hk rfl hf hd (Jc7 ll _ (nn hn)).2
  ·rename_i e ll e2 k' κ' hk hd
   cases hc:(keq .u8 k'&&Nat.beq sz 2&&Nat.beq off 1) with
   |false=>simp[hc] at h
   |true=>
    simp only[hc,cond_true,Option.some.injEq] at h
    subst h
    simp only[Bool.and_eq_true] at hc
    obtain rfl:=Nat.eq_of_beq_eq_true hc.1.2
    obtain rfl:=Nat.eq_of_beq_eq_true hc.2
    exact slc _ _ κ' .u8 _ _ _ _ hk rfl hf hd (Jc7 ll _ (nn hn)).2
  ·rename_i _ ll k' hk hd
   cases hc:(keq .i64 k'&&Nat.beq sz 2&&Nat.beq off 0) with
   |false=>simp[hc] at h
   |true=>
    simp only[hc,cond_true,Vp,Option.some.injEq] at h
    subst h
    simp only[Bool.and_eq_true] at hc
    obtain rfl:=Nat.eq_of_beq_eq_true hc.1.2
    obtain rfl:=Nat.eq_of_beq_eq_true hc.2
    obtain⟨a1,len,cap,u,g1,g2,g3,g4,g5,g6,g7⟩:=(Jdo (e:= .rows (.rc ll)) rfl (I.key hk).2).1.get (Jc7 ll _ (nn hn)).1
    simp only[DL.at] at g6
    subst g6
    exact⟨_,run1 hd rfl g1 (by rw[Nat.add_zero];exact g4),JcN I (v:=Yn .i64 _) ⟨trivial,trivial⟩⟩
  ·rename_i _ e ll k' hk hd
   cases hc:(keq .i64 k'&&Nat.beq sz 2&&Nat.beq off 0) with
   |false=>simp[hc] at h
   |true=>
    simp only[hc,cond_true,Vp,Option.some.injEq] at h
    subst h
    simp only[Bool.and_eq_true] at hc
    obtain rfl:=Nat.eq_of_beq_eq_true hc.1.2
    obtain rfl:=Nat.eq_of_beq_eq_true hc.2
    obtain⟨a1,len,cap,u,g1,g2,g3,g4,g5,g6,g7⟩:=(Jdo (e:= .orows e (.rc ll)) rfl (I.key hk).2).1.get (Jc7 ll _ (nn hn)).1
    simp only[DL.at] at g6
    subst g6
    exact⟨_,run1 hd rfl g1 (by rw[Nat.add_zero];exact g4),JcN I (v:=Yn .i64 _) ⟨trivial,trivial⟩⟩
  all_goals first
   |cases h
   | (rename_i ll n o z κ' hk hd
      cases hc:(Nat.beq n 2&&Nat.beq sz 2&&Nat.beq off 0) with
      |false=>simp[hc] at h
      | true=>
        simp only[hc,cond_true,Option.some.injEq] at h
        subst h
        simp only[Bool.and_eq_true] at hc
        obtain rfl:=Nat.eq_of_beq_eq_true hc.1.1
        obtain rfl:=Nat.eq_of_beq_eq_true hc.1.2
        obtain rfl:=Nat.eq_of_beq_eq_true hc.2
        obtain⟨c1,c2⟩:=Jc7 ll _ (nn hn)
        obtain⟨a1,len,cap,u,g1,g2,g3,I'⟩:=Jgc I (I.key hk).1 rfl hf c2
        obtain⟨a2,len2,cap2,u2,q1,_,q3,q4,q5,q6,_⟩:=(Jdo rfl (I.key hk).2).1.get c1
        rw[g1] at q1
        simp only[Value.slice.injEq,Option.some.injEq] at q1
        obtain⟨rfl,_,_⟩:=q1
        simp only[DL.at] at q6
        subst q6
        have hl:=run_loadCells_list (P:=P) w (a1.add (i.toNat*2)) [.int .i64 (ll.getD i.toNat (0,[])).1,u] fun j v hv=>by
          match j with
          |0=>simp at hv;subst hv;rw[YZ g2];simpa using q4
          |1=>simp at hv;subst hv;rw[YZ g2];exact g3
          |j+2=>simp at hv
        refine⟨.agg [.int .i64 (ll.getD i.toNat (0,[])).1,u].toArray,?_,_,by simp[SV.den,V1.den,Jq,Leaf.cells],by intro x hx;simp at hx;rcases hx with rfl|rfl<;>trivial,I'⟩
        have hag:=Yt (hT t _ hd) w
        have hsz:=Jbi (hT t _ hd) w
        simp only[SV.den,V1.den,Leaf.cells,List.headD_cons,g1,JM,Nat.add_zero,Instr.loadAt,Instr.sureAddr,Sem.run_bind,Sem.run_pure,Result.andThen_ok]
        simp only[List.length_cons,List.length_nil,List.toArray] at hl
        simp at hl
        simp[loadVar,hag,hsz,TD.isA,TD.sz,hl])
 ·cases h
end Go.Gw

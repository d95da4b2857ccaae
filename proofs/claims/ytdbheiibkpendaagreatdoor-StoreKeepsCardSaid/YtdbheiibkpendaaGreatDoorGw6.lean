/- The walk's engine, part 6: struct literals; the whole step. -/
import Derived.Test.YtdbheiibkpendaaGreatDoorMGwM
import Derived.Test.YtdbheiibkpendaaGreatDoorMGwP
import Derived.Test.YtdbheiibkpendaaGreatDoorMGwP
namespace Go.Gw
open Go.RowKit
variable {P:Program} {T:TypeId→Option TD} {B:Nat→Prop} {N:Nat} {w0:W0} {γ:Nat→Value} {σ:Stt} {a:Act} {w:World}
theorem Jcx (I:Inv B N w0 γ σ a w) (pl:List (Nat×Nat)):∀(ps:List (Nat×Operand)) (acc l:List Leaf),(∀x∈acc,x.ok)→Jbv ps (Jg σ) pl acc=some l→
  Instr.fill (pl.toArray[·]?) (Jq γ acc).toArray (ps.map fun p=>(p.1,a.eval p.2))=some (Jq γ l).toArray∧∀x∈l,x.ok
 |[],acc,l,ha,h=>by
  simp only[Jbv,Option.some.injEq] at h
  subst h
  exact⟨rfl,ha⟩
 | (i,x)::r,acc,l,ha,h=>by
  simp only[Jbv] at h
  split at h
  ·rename_i off sz y hp hx
   split at h
   ·cases h
   ·cases h
   ·rename_i yy _ _ z hza hz hya
    cases hs:Nat.beq sz 1 with
    |false=>simp[hs] at h
    | true=>
     simp only[hs,cond_true] at h
     have hsz:=Nat.eq_of_beq_eq_true hs
     subst hsz
     obtain⟨m,r',e1,e2,e3⟩:=WX acc off z hz
     have hv:=I.eval hx
     have hyl:yy.lone:=hv.2.2
     have hzl:z.lone:=by cases z<;>first|trivial|exact(hza _ _ _ rfl).elim
     subst e1
     have okm:∀x∈m,x.ok:=fun x hx=>ha x (by simp[hx])
     have ok2:∀x∈Yw (m++z::r') off yy,x.ok:=fun u hu=>by
      rw[e3 yy] at hu
      simp only[List.mem_append,List.mem_cons] at hu
      rcases hu with hu|rfl|hu
      ·exact okm u hu
      ·exact hv.2.1
      ·exact ha u (by simp[hu])
     obtain⟨h1,h2⟩:=Jcx I pl r _ l ok2 h
     refine⟨?_,h2⟩
     have hc:=Va (QC I.cell1 hyl)
     have e:a.eval x=(yy.cells γ).headD undef:=hv.1
     simp only[List.map_cons,e]
     rw[JF,JP,WB hzl]
     rw[XI (pl.toArray[·]?) (off:=off) (sz:=1) (by simpa using hp) _ _ _ _ _ (by rw[Vq okm,e2]) rfl (by rw[hc];rfl)]
     rw[e3 yy,JF,JP,WB hyl] at h1
     rw[hc]
     exact h1
   ·cases h
  ·rename_i off sz m hp hx
   split at h
   ·rename_i pre r' h1
    split at h
    ·rename_i mid post m1 h2 h3
     obtain⟨e1,e2⟩:=Xg _ _ _ _ h1
     obtain⟨e3,e4⟩:=Xg _ _ _ _ h2
     obtain⟨e5,e6⟩:=Xg _ _ _ _ h3
     rw[List.append_nil] at e5
     subst e5;subst e3;subst e1
     have hv:=I.eval hx
     have okm:∀x∈m,x.ok:=hv.2
     have okp:∀x∈pre,x.ok:=fun x hx=>ha x (by simp[hx])
     have okd:∀x∈mid,x.ok:=fun x hx=>ha x (by simp[hx])
     obtain⟨g1,g2⟩:=Jcx I pl r _ l (fun u hu=>by
      simp only[List.mem_append] at hu
      rcases hu with hu|hu|hu
      ·exact okp u hu
      ·exact okm u hu
      ·exact ha u (by simp[hu])) h
     refine⟨?_,g2⟩
     have e:a.eval x= .agg (Jq γ m).toArray:=hv.1
     simp only[List.map_cons,e]
     rw[JF,JF]
     rw[XI (pl.toArray[·]?) (off:=off) (sz:=sz) (by simpa using hp) _ _ _ _ _ (by rw[Vq okp,e2]) (by rw[Vq okd,e4]) (by simp[Value.cells,Vq okm,e6])]
     rw[JF,JF] at g1
     exact g1
    ·cases h
   ·cases h
  ·cases h
theorem Jch (I:Inv B N w0 γ σ a w):∀(xs:List Operand) (l:List SV),JdO σ xs=some l→xs.map a.eval=l.map (SV.den γ)∧∀x∈l,x.ok
 |[],l,h=>by simp only[JdO,Option.some.injEq] at h;subst h;simp
 | x::r,l,h=>by
  simp only[JdO] at h
  split at h
  ·rename_i v l' h1 h2
   simp only[Option.some.injEq] at h
   subst h
   obtain⟨e1,e2⟩:=Jch I r l' h2
   have:=I.eval h1
   refine⟨by simp[e1,this.1],fun y hy=> ?_⟩
   rcases List.mem_cons.1 hy with rfl|hy
   ·exact this.2
   ·exact e2 y hy
  ·cases h
theorem Jds (I:Inv B N w0 γ σ a w):∀(ks:List Nat),∀p∈YY σ ks,p.2.at B γ w p.1
 |[],p,hp=>by simp[YY] at hp
 | κ::r,p,hp=>by
  simp only[YY] at hp
  split at hp
  ·rename_i e he
   rcases List.mem_cons.1 hp with rfl|hp
   ·exact(I.key he).2
   ·exact Jds I r p hp
  ·exact Jds I r p hp
theorem Yd:∀(ks:List Nat) (p:Nat×Ent),p∈YY σ ks↔p.1∈ks∧Jh σ p.1=some p.2
 |[],p=>by simp[YY]
 | κ ::r,p=>by
  simp only[YY]
  cases hl:Jh σ κ with
  | none=>
   simp only[Yd r p,List.mem_cons]
   constructor
   ·exact fun h=>⟨.inr h.1,h.2⟩
   ·rintro ⟨h1|h1,h2⟩
    ·rw[h1,hl] at h2;cases h2
    ·exact⟨h1,h2⟩
  | some e=>
   simp only[List.mem_cons,Yd r p]
   constructor
   ·rintro (rfl|h)
    ·exact⟨.inl rfl,hl⟩
    ·exact⟨.inr h.1,h.2⟩
   ·rintro ⟨h1|h1,h2⟩
    ·left
     rw[h1,hl] at h2
     obtain⟨p1,p2⟩:=p
     simp only at h1
     cases h2
     rw[h1]
    ·exact .inr ⟨h1,h2⟩
theorem Jci {ks:List Nat}:∀{news:List (Nat×Ent)},Jbk σ ks news=true→∀p∈news,ks.any (Nat.beq p.1)=true→∃e,Jh σ p.1=some e∧e.mut=true
 |[],_,p,hp=>by simp at hp
 | q::r,h,p,hp=>by
  simp only[Jbk,Bool.and_eq_true] at h
  intro hk
  rcases List.mem_cons.1 hp with rfl|hp
  ·have h1:=h.1
   rw[hk] at h1
   simp only[cond_true] at h1
   split at h1
   ·rename_i e he;exact⟨e,he,h1⟩
   ·cases h1
  ·exact Jci h.2 p hp hk
theorem Jcv {κ:Nat} {ks:List Nat}:ks.any (Nat.beq κ)=true↔κ∈ks:=by
 rw[List.any_eq_true]
 constructor
 ·rintro ⟨x,hx,h⟩;rw[Nat.eq_of_beq_eq_true h];exact hx
 ·exact fun h=>⟨κ,h,Nat.beq_refl κ⟩
theorem JdU (hT:TOk P T) (I:Inv B N w0 γ σ a w) {hint:Hint} {t ty:TypeId} {x y:SV} {eff:Eff} (hf:Jd5 hint σ) (h:Ja5 T σ hint t x y=some eff) (hn:eff.need):
  ∃v w',(Builtin.append_ #[t,t] ty #[x.den γ,y.den γ]).run P w= .ok v w'∧Post B N w0 σ a eff v w':=by
 unfold Ja5 at h
 split at h
 ·rename_i e k κ' hd
  split at h
  ·rename_i κ
   split at h
   ·rename_i e' k' l hk
    cases hc:(keq k k'&&Nat.beq e e') with
    |false=>simp[hc] at h
    |true=>
     simp only[hc,cond_true,Option.some.injEq] at h
     subst h
     simp only[Bool.and_eq_true] at hc
     obtain rfl:=WF hc.1
     obtain rfl:=Nat.eq_of_beq_eq_true hc.2
     exact Jfv (P:=P) (t:=t) (ty:=ty) I (hT t _ hd) (I.key hk).1 hf
   ·cases h
  ·simp only[Option.some.injEq] at h
   subst h
   exact append_nil (P:=P) (t:=t) (ty:=ty) I (hT t _ hd) hf (.inl ⟨⟨none,rfl⟩,rfl⟩) (by simp[Qi])
  ·rename_i κ _
   split at h
   ·rename_i e' k' l k2 l2 hk hr
    cases hc:(keq k k'&&Nat.beq e e'&&keq k k2) with
    |false=>simp[hc] at h
    |true=>
     simp only[hc,cond_true,Option.some.injEq] at h
     subst h
     simp only[Bool.and_eq_true] at hc
     obtain rfl:=WF hc.1.1
     obtain rfl:=Nat.eq_of_beq_eq_true hc.1.2
     obtain rfl:=WF hc.2
     exact JgT (P:=P) (t:=t) (ty:=ty) I (hT t _ hd) (I.key hk).1 hf (JbA I hr) hn
   ·cases h
  ·split at h
   ·rename_i k2 l2 hr
    cases hc:keq k k2 with
    |false=>simp[hc] at h
    |true=>
     simp only[hc,cond_true,Option.some.injEq] at h
     subst h
     obtain rfl:=WF hc
     exact append_nil (P:=P) (t:=t) (ty:=ty) I (hT t _ hd) hf (JbA I hr) hn
   ·cases h
  ·cases h
 ·cases h
theorem JdJ (hT:TOk P T) (I:Inv B N w0 γ σ a w) {hint:Hint} {t ty:TypeId} {x y:SV} {eff:Eff} (hf:Jd5 hint σ) (h:QJ T σ hint t x y=some eff) (hn:eff.need):
  ∃v w',(Builtin.append_ #[t,t] ty #[x.den γ,y.den γ]).run P w= .ok v w'∧Post B N w0 σ a eff v w':=by
 unfold QJ at h
 split at h
 ·rename_i e sz κ' κ2 hd
  split at h
  ·rename_i e2 r2 hk2
   cases hc:Nat.beq r2.sz sz with
   |false=>simp[hc] at h
   | true=>
    simp only[hc,cond_true] at h
    have hs:=Nat.eq_of_beq_eq_true hc
    split at h
    ·rename_i κ
     split at h
     ·rename_i e1 r1 hk
      split at h
      ·rename_i r happ
       cases hc2:(Nat.beq e e1&& !(Nat.beq κ κ2)) with
       |false=>simp[hc2] at h
       |true=>
        simp only[hc2,cond_true,Option.some.injEq] at h
        subst h
        simp only[Bool.and_eq_true,Bool.not_eq_true'] at hc2
        obtain rfl:=Nat.eq_of_beq_eq_true hc2.1
        have hne:κ≠κ2:=fun e=>by subst e;simp at hc2
        exact Jem (P:=P) (t:=t) (ty:=ty) I (hT t _ hd) (I.key hk).1 (I.key hk2).1 hne hf hs happ hn
      ·cases h
     ·cases h
    ·simp only[Option.some.injEq] at h
     subst h
     exact Jbt (P:=P) (t:=t) (ty:=ty) I (hT t _ hd) (I.key hk2).1 hf hs hn
    ·cases h
  ·rename_i r2 hk2
   cases hc:Nat.beq r2.sz sz with
   |false=>simp[hc] at h
   | true=>
    simp only[hc,cond_true] at h
    have hs:=Nat.eq_of_beq_eq_true hc
    split at h
    ·rename_i κ
     split at h
     ·rename_i e1 r1 hk
      split at h
      ·rename_i r happ
       cases hc2:Nat.beq e e1 with
       |false=>simp[hc2] at h
       |true=>
        simp only[hc2,cond_true,Option.some.injEq] at h
        subst h
        obtain rfl:=Nat.eq_of_beq_eq_true hc2
        exact Jea (P:=P) (t:=t) (ty:=ty) I (hT t _ hd) (I.key hk).1 (I.key hk2).1 hf hs happ hn
      ·cases h
     ·cases h
    ·simp only[Option.some.injEq] at h
     subst h
     exact Jbs (P:=P) (t:=t) (ty:=ty) I (hT t _ hd) (I.key hk2).1 hf hs hn
    ·cases h
  ·cases h
 ·cases h
theorem Jbu (I:Inv B N w0 γ σ a w) {o:Option Operand} {s:Option SV} {d m:Int} (h1:Jbm σ o=some s) (h2:WD s d=some m):Bd (o.map a.eval) d m:=by
 cases o with
 |none=>simp only[Jbm,Option.some.injEq] at h1;subst h1;simp[WD] at h2;exact .inl ⟨rfl,h2.symm⟩
 | some y=>
  simp only[Jbm,Option.map_eq_some_iff] at h1
  obtain⟨u,g3,g4⟩:=h1
  subst g4
  unfold WD at h2
  split at h2
  ·rename_i hh;cases hh
  ·rename_i kk m' hh
   simp only[Option.some.injEq] at h2 hh
   subst h2;subst hh
   exact .inr ⟨kk,by simp[(I.eval g3).1,SV.den,V1.den,Leaf.cells]⟩
  ·cases h2
theorem Jgl {o:Option Operand} (h:Jbm σ o=some none):o=none:=by
 cases o with
 |none=>rfl
 |some y=>simp[Jbm] at h
theorem Jj7 (I:Inv B N w0 γ σ a w) {x:SV} {n:Int} (h:JiW σ x=some n):∃ad len cap,x.den γ= .slice ad len cap∧(len:Int)=n:=by
 have rd:∀{κ:Nat} {k:IntKind} {l:List Int},RdI w (γ κ) k l→∃ad len cap,(SV.v (.one (.slc κ))).den γ= .slice ad len cap∧(len:Int)=l.length:=fun {κ k l} h=>by
  rcases h with⟨⟨o,h⟩,rfl⟩|⟨ad,cap,h,_⟩
  ·exact⟨o,0,0,h,rfl⟩
  ·exact⟨some ad,_,cap,h,rfl⟩
 have rr:∀{κ:Nat} {r:RowsK},RdR w (γ κ) r→∃ad len cap,(SV.v (.one (.slc κ))).den γ= .slice ad len cap∧(len:Int)=r.len:=fun {κ r} h=>by
  rcases h with⟨h,h0⟩|⟨ad,cap,h,_⟩
  ·exact⟨none,0,0,h,by rw[h0]⟩
  ·exact⟨some ad,_,cap,h,rfl⟩
 unfold JiW at h
 split at h
 ·rename_i κ
  split at h
  ·rename_i k l hk;cases h;exact rd (I.key hk).2
  ·rename_i k l hk;cases h;exact rd (I.key hk).2.1
  ·rename_i e k l hk;cases h;exact rd (Ql (I.key hk).2.1)
  ·rename_i r hk;cases h;exact rr (I.key hk).2
  ·rename_i e r hk;cases h;exact rr (I.key hk).2.1
  ·rename_i e r hk;cases h;exact rr (I.key hk).2.1
  ·rename_i e eb m r hk
   cases h
   obtain⟨xs,x1,_⟩:=(I.key hk).2
   rcases x1.2 with⟨hv,h0⟩|⟨g,cap,cur,hv,_⟩
   ·exact⟨none,0,0,hv,by rw[h0]⟩
   ·exact⟨_,_,_,hv,rfl⟩
  ·rename_i e n' l hk
   cases h
   obtain⟨b,h1,_⟩:=(I.key hk).2
   exact⟨_,_,_,h1,rfl⟩
  ·cases h
 ·cases h;exact⟨none,0,0,rfl,rfl⟩
 ·cases h
theorem Jcu (op:BinOp) (t:TypeId) (x y:Operand) (n:Option Addr) (b:Value):(eqGuard op t x y (.pointer n) b).run P w= .ok () w:=by
 unfold eqGuard
 split<;>rfl
theorem XK (op:BinOp) (t:TypeId) (x y:Operand) (n:Option Addr) (l c:Nat) (b:Value):(eqGuard op t x y (.slice n l c) b).run P w= .ok () w:=by
 unfold eqGuard
 split<;>rfl
theorem Xu (hT:TOk P T) (I:Inv B N w0 γ σ a w) {hint:Hint} {o:Oper} {eff:Eff} (hf:Jd5 hint σ) (h:JgR P T σ hint o.op=some eff) (hn:eff.need):
  RunOk P (execOp a.eval o) w (Post B N w0 σ a eff):=by
 have val:∀(v:SV),v.ok→Post B N w0 σ a ⟨some v,[],[]⟩ (v.den γ) w:=fun v hv=>⟨γ,rfl,hv,I⟩
 obtain⟨dst,op,ty,pos,after,guard⟩:=o
 have lenCase:∀{args:Array Operand} {ats:Array TypeId} (d:TD) (x0:SV),(∀t,T t=some d→∃e,P.underlying t=some (.slice e))→(ats[0]?).bind T=some d→(args[0]?).bind (Jg σ)=some x0→
   ((JiW σ x0).bind fun n=>Ju (Yn .i64 n))=some eff→RunOk P (do pure (.value (←Builtin.len_ ats ty (args.map a.eval)))) w (Post B N w0 σ a eff):=by
  intro args ats d x0 hd ht hx h
  cases hl:JiW σ x0 with
  |none=>simp[hl] at h
  | some n=>
   simp only[hl,Option.bind_some,Ju,Option.some.injEq] at h
   subst h
   cases ht0:ats[0]? with
   |none=>simp[ht0] at ht
   | some t=>
    simp only[ht0,Option.bind_some] at ht
    obtain⟨e,hu⟩:=hd t ht
    cases ha0:args[0]? with
    |none=>simp[ha0] at hx
    | some x=>
     simp only[ha0,Option.bind_some] at hx
     obtain⟨ad,len,cap,h1,h2⟩:=Jj7 I hl
     have e1:a.eval x= .slice ad len cap:=(I.eval hx).1.trans h1
     have hr:(Builtin.len_ ats ty (args.map a.eval)).run P w= .ok (.int .i64 n) w:=by
      simp[Builtin.len_,ht0,ha0,run_underlying hu,goInt,e1,h2]
     exact Jm hr (val (Yn .i64 n) ⟨trivial,trivial⟩)
 unfold JgR at h
 split at h
 ·-- move
  rename_i x heq
  simp only at heq
  subst heq
  refine Yg h hn fun eff' h' hn'=> ?_
  cases hx:Jg σ x with
  |none=>simp[hx] at h'
  |some v=>
   simp only[hx,Option.bind_some,Ju,Option.some.injEq] at h'
   subst h'
   have:=I.eval hx
   exact RunOk.pureV (by rw[this.1];exact val v this.2)
 ·-- assign
  rename_i x heq
  simp only at heq
  subst heq
  refine Yg h hn fun eff' h' hn'=> ?_
  cases hx:Jg σ x with
  |none=>simp[hx] at h'
  |some v=>
   simp only[hx,Option.bind_some,Ju,Option.some.injEq] at h'
   subst h'
   have:=I.eval hx
   exact RunOk.pureV (by rw[this.1];exact val v this.2)
 ·-- pick
  rename_i c x y heq
  simp only at heq
  subst heq
  split at h
  ·rename_i hc
   have ec:a.eval c= .bool true:=(I.eval hc).1
   refine Yg h hn fun eff' h' hn'=> ?_
   cases hx:Jg σ x with
   |none=>simp[hx] at h'
   |some v=>
    simp only[hx,Option.bind_some,Ju,Option.some.injEq] at h'
    subst h'
    have:=I.eval hx
    have hp:=val v this.2
    rw[←this.1] at hp
    simpa[execOp,ec,asBool,RunOk] using hp
  ·rename_i hc
   have ec:a.eval c= .bool false:=(I.eval hc).1
   refine Yg h hn fun eff' h' hn'=> ?_
   cases hx:Jg σ y with
   |none=>simp[hx] at h'
   |some v=>
    simp only[hx,Option.bind_some,Ju,Option.some.injEq] at h'
    subst h'
    have:=I.eval hx
    have hp:=val v this.2
    rw[←this.1] at hp
    simpa[execOp,ec,asBool,RunOk] using hp
  ·cases h
 ·-- extract
  rename_i t i heq
  simp only at heq
  subst heq
  split at h
  ·rename_i l ht
   refine Yg h hn fun eff' h' hn'=> ?_
   cases hx:l[i]? with
   |none=>simp[hx] at h'
   |some v=>
    simp only[hx,Option.bind_some,Ju,Option.some.injEq] at h'
    subst h'
    have:=I.eval ht
    have e:a.eval t= .tuple (l.map (V1.den γ)).toArray:=this.1
    have hok:v.ok:=this.2 v (List.mem_of_getElem? hx)
    have hp:=val (.v v) hok
    have hr:(Instr.extract (a.eval t) i).run P w= .ok (v.den γ) w:=by simp[e,Instr.extract,hx]
    exact Jm hr hp
  ·cases h
 ·-- nilCheck
  rename_i x heq
  simp only at heq
  subst heq
  split at h
  ·rename_i κ off hx
   simp only[Ju,Option.some.injEq] at h
   subst h
   have e:a.eval x= .pointer (some ⟨bk γ κ,off,none⟩):=(I.eval hx).1
   have hp:=val (.v (.one (.ptr κ off))) ⟨trivial,trivial⟩
   have hex:execOp a.eval ⟨dst,.nilCheck x,ty,pos,after,guard⟩=pure (.value (a.eval x)):=by simp only[execOp,e]
   rw[hex]
   exact RunOk.pureV (by rw[e];exact hp)
  ·cases h
 ·-- convert
  rename_i src dst' x heq
  simp only at heq
  subst heq
  split at h
  ·rename_i k0 k k1 n hs hd hx
   simp only[Ju,Option.some.injEq] at h
   subst h
   have e:a.eval x= .int k1 n:=(I.eval hx).1
   have hr:(convert src dst' (a.eval x)).run P w= .ok (.int k (k.wrap n)) w:=by
    rw[e]
    simp[convert,run_underlying (hT _ _ hs).1,run_underlying (hT _ _ hd).1,Conv.intToInt]
   exact Jm hr (val (Yn k (k.wrap n)) ⟨trivial,trivial⟩)
  ·rename_i e s hs hd hx
   split at h
   ·rename_i κ'
    simp only[Option.some.injEq] at h
    subst h
    have ex:a.eval x= .string s:=(I.eval hx).1
    obtain⟨v,w',h1,h2⟩:=Jlf (P:=P) (p:=[s.size≤Qi]) I (hT _ _ hs) (hT _ _ hd) hf hn
    rw[←ex] at h1
    exact Jm h1 h2
   ·cases h
  ·rename_i e1 e2 κ hs hd hx
   cases hc:Nat.beq src dst' with
   |false=>simp[hc] at h
   | true=>
    obtain rfl:=Nat.eq_of_beq_eq_true hc
    simp only[hc,cond_true] at h
    split at h
    ·rename_i e3 l κ' hk
     simp only[Option.some.injEq] at h
     subst h
     have ex:a.eval x=γ κ:=(I.eval hx).1
     obtain⟨v,w',h1,h2⟩:=Jju (P:=P) (p:=[0<l.length]) I (hT _ _ hd) (I.key hk).1 hf hn
     rw[←ex] at h1
     exact Jm h1 h2
    ·cases h
  ·rename_i e1 v hs hd hx
   split at h
   ·rename_i l hr
    simp only[Ju,Option.some.injEq] at h
    subst h
    have ex:a.eval x=v.den γ:=(I.eval hx).1
    have hrd:=JbA I hr
    have hr2:(convert src dst' (a.eval x)).run P w= .ok (.string (strOfNums l)) w:=by
     rw[ex]
     rcases hrd with⟨⟨o,hv⟩,h0⟩|⟨ad,cap,hv,g1,g2,g3,g4,g5⟩
     ·rw[hv,h0]
      cases o with
      |none=>exact run_convert_bytes_nil w src e1 (hT _ _ hs).1 (hT _ _ hs).2.1 0 0 dst' (hT _ _ hd).1
      |some a0=>
       rw[run_convert_bytes_string w src dst' e1 (some a0) 0 0 (hT _ _ hs).1 (hT _ _ hs).2.1 (hT _ _ hd).1]
       exact run_bytesToString w a0 0 0 [] (by simp[loadCells,loadCellsFrom])
     ·rw[hv]
      obtain⟨b0,o0,s0⟩:=ad
      simp only at g4;subst g4
      exact run_convert_bytes_arg w src e1 (hT _ _ hs).1 (hT _ _ hs).2.1 b0 o0 l.length cap l rfl (fun i hi=>by have:=g5 i hi;rwa [Jn] at this) dst' (hT _ _ hd).1
    exact Jm hr2 (val (.v (.one (.str (strOfNums l)))) ⟨trivial,trivial⟩)
   ·cases h
  ·cases h
 ·-- binOp
  rename_i op' t x y yt heq
  simp only at heq
  subst heq
  split at h
  ·rename_i κ off hx hy
   have ex:a.eval x= .pointer (some ⟨bk γ κ,off,none⟩):=(I.eval hx).1
   have ey:a.eval y= .pointer none:=(I.eval hy).1
   split at h
   ·rename_i hd
    simp only[Ju,Option.some.injEq] at h
    subst h
    obtain⟨e,t1,_⟩:=hT _ _ hd
    have hr:(do eqGuard .eql t x y (a.eval x) (a.eval y);binOp .eql t (a.eval x) (a.eval y):Sem Value).run P w= .ok (.bool false) w:=by
     rw[ex,ey]
     simp only[Sem.run_bind,Jcu,Result.andThen_ok]
     exact run_eql_pointer_nil w t _ (by simp[Program.pointee,t1])
    exact Jm hr (val (Wg false) ⟨trivial,trivial⟩)
   ·rename_i hd
    simp only[Ju,Option.some.injEq] at h
    subst h
    obtain⟨e,t1,_⟩:=hT _ _ hd
    have hr:(do eqGuard .neq t x y (a.eval x) (a.eval y);binOp .neq t (a.eval x) (a.eval y):Sem Value).run P w= .ok (.bool true) w:=by
     rw[ex,ey]
     simp only[Sem.run_bind,Jcu,Result.andThen_ok]
     exact run_neq_pointer_nil w t _ (by simp[Program.pointee,t1])
    exact Jm hr (val (Wg true) ⟨trivial,trivial⟩)
   ·cases h
  ·rename_i κ hx hy
   have ex:a.eval x=γ κ:=(I.eval hx).1
   have ey:a.eval y= .slice none 0 0:=(I.eval hy).1
   have go:∀{k:IntKind} {l:List Int},Jh σ κ=some (.rdx k l)→∃ad n c,γ κ= .slice (some ad) n c:=fun {k l} hk=>by
    obtain⟨h1,h2⟩:=(I.key hk).2
    rcases h1 with⟨⟨o,h1⟩,_⟩|⟨ad,cap,h1,_⟩
    ·cases o with
     |none=>exact absurd h1 h2
     |some a0=>exact⟨a0,0,0,h1⟩
    ·exact⟨ad,_,cap,h1⟩
   split at h
   ·rename_i e k k' l hd hk
    simp only[Ju,Option.some.injEq] at h
    subst h
    obtain⟨ad,n,c,hv⟩:=go hk
    have hr:(do eqGuard .eql t x y (a.eval x) (a.eval y);binOp .eql t (a.eval x) (a.eval y):Sem Value).run P w= .ok (.bool false) w:=by
     rw[ex,ey,hv]
     simp only[Sem.run_bind,XK,Result.andThen_ok,binOp]
     simp[Xi (hT _ _ hd).1]
    exact Jm hr (val (Wg false) ⟨trivial,trivial⟩)
   ·rename_i e k k' l hd hk
    simp only[Ju,Option.some.injEq] at h
    subst h
    obtain⟨ad,n,c,hv⟩:=go hk
    have hr:(do eqGuard .neq t x y (a.eval x) (a.eval y);binOp .neq t (a.eval x) (a.eval y):Sem Value).run P w= .ok (.bool true) w:=by
     rw[ex,ey,hv]
     simp only[Sem.run_bind,XK,Result.andThen_ok,binOp]
     simp[Xi (hT _ _ hd).1]
    exact Jm hr (val (Wg true) ⟨trivial,trivial⟩)
   ·cases h
  ·rename_i hx hy
   have ex:a.eval x= .slice none 0 0:=(I.eval hx).1
   have ey:a.eval y= .slice none 0 0:=(I.eval hy).1
   split at h
   ·rename_i e k hd
    simp only[Ju,Option.some.injEq] at h
    subst h
    have hr:(do eqGuard .eql t x y (a.eval x) (a.eval y);binOp .eql t (a.eval x) (a.eval y):Sem Value).run P w= .ok (.bool true) w:=by
     rw[ex,ey]
     simp only[Sem.run_bind,XK,Result.andThen_ok,binOp]
     simp[XL (hT _ _ hd).1]
    exact Jm hr (val (Wg true) ⟨trivial,trivial⟩)
   ·rename_i e k hd
    simp only[Ju,Option.some.injEq] at h
    subst h
    have hr:(do eqGuard .neq t x y (a.eval x) (a.eval y);binOp .neq t (a.eval x) (a.eval y):Sem Value).run P w= .ok (.bool false) w:=by
     rw[ex,ey]
     simp only[Sem.run_bind,XK,Result.andThen_ok,binOp]
     simp[XL (hT _ _ hd).1]
    exact Jm hr (val (Wg false) ⟨trivial,trivial⟩)
   ·cases h
  ·rename_i u v _ _ _ hx hy
   refine Yg h hn fun eff' h' hn'=> ?_
   have ex:=I.eval hx
   have ey:=I.eval hy
   obtain⟨r,h1,h2,h3,h4⟩:=Jk5 (P:=P) (w:=w) (γ:=γ) hT ex.2 ey.2 h' hn' x y
   rw[←ex.1,←ey.1] at h4
   obtain⟨ev,ew,en⟩:=eff'
   simp only at h1 h2
   subst h1;subst h2
   exact Jm h4 ⟨γ,rfl,h3,I⟩
  ·cases h
 ·-- unOp
  rename_i op' t x heq
  simp only at heq
  subst heq
  cases hx:Jg σ x with
  |none=>simp[hx] at h
  |some u=>
   simp only[hx,Option.bind_some] at h
   refine Yg h hn fun eff' h' hn'=> ?_
   have ex:=I.eval hx
   obtain⟨r,h1,h2,h3,h4⟩:=Jl4 (P:=P) (w:=w) (γ:=γ) h'
   rw[←ex.1] at h4
   obtain⟨ev,ew,en⟩:=eff'
   simp only at h1 h2
   subst h1;subst h2
   exact Jm h4 ⟨γ,rfl,h3,I⟩
 ·-- index
  rename_i t x i heq
  simp only at heq
  subst heq
  split at h
  ·rename_i n e k k' n' l kj j hd hx hi
   cases hc:(keq k k'&&Nat.beq n n') with
   |false=>simp[hc] at h
   | true=>
    simp only[hc,cond_true,Vp,Option.some.injEq] at h
    subst h
    simp only[Bool.and_eq_true] at hc
    obtain rfl:=WF hc.1
    obtain rfl:=Nat.eq_of_beq_eq_true hc.2
    obtain⟨h0,h1⟩:0≤j∧j<n:=hn
    have ex:=I.eval hx
    have hl:l.length=n:=ex.2 (.arr k n l) (by simp)
    have e1:a.eval x= .agg (l.map (Value.int k)).toArray:=by rw[ex.1];simp[SV.den,V1.den,Jq,Leaf.cells]
    have e2:a.eval i= .int kj j:=(I.eval hi).1
    obtain⟨t1,t2,t3,t4,t5⟩:=hT t _ hd
    have hr:(Instr.index t (a.eval x) (a.eval i)).run P w= .ok (.int k (l.getD j.toNat 0)) w:=by
     rw[e1,e2]
     have:j.toNat<l.length:=by omega
     simp[Instr.index,asIntOf,run_underlying t1,h0,h1,Vz t4,part,isAgg,run_underlying t2,List.getD,this]
    exact Jm hr ⟨γ,rfl,⟨trivial,trivial⟩,I⟩
  ·cases h
 ·-- alloc
  rename_i t heq
  simp only at heq
  subst heq
  have go:∀(κ:Nat) (l:List Leaf),hint= .key κ→(∀x∈l,x.ok)→(∀x∈l,x.keys=[])→(∀w,(zeroValue t).run P w= .ok (.agg (Jq γ l).toArray) w∨∃v,(zeroValue t).run P w= .ok v w∧v.cells=(Jq γ l).toArray)→
    RunOk P (execOp a.eval ⟨dst,.alloc t,ty,pos,after,guard⟩) w (Post B N w0 σ a ⟨some (.v (.one (.ptr κ 0))),[(κ,.blk t l)],[]⟩):=by
   intro κ l hh hok hk hz
   subst hh
   have hz':∃v,(zeroValue t).run P w= .ok v w∧v.cells=(Jq γ l).toArray:=by
    rcases hz w with h|h
    ·exact⟨_,h,rfl⟩
    ·exact h
   obtain⟨v,hz1,hz2⟩:=hz'
   have hr:(Instr.alloc t true (.tuple #[])).run P w= .ok (.pointer (some ⟨w.heap.size,0,none⟩)) (w.alloc (.cells (Jq γ l).toArray t)):=by
    simp[Instr.alloc,hz1,newVar,newRow,hz2]
   refine Jm hr ⟨_,?_,⟨trivial,trivial⟩,I.alloc hf hok fun x hx=>by simp[hk x hx]⟩
   simp[SV.den,V1.den,Leaf.cells,bk]
  split at h
  ·rename_i κ k hd
   simp only[Option.some.injEq] at h
   subst h
   exact go κ _ rfl (by simp[Leaf.ok]) (by simp[Leaf.keys]) fun w=> .inr ⟨_,(VO (hT t _ hd).2 w).2,rfl⟩
  ·rename_i κ hd
   simp only[Option.some.injEq] at h
   subst h
   exact go κ _ rfl (by simp[Leaf.ok]) (by simp[Leaf.keys]) fun w=> .inr ⟨_,(VO (hT t _ hd).2 w).2,rfl⟩
  ·rename_i κ n e k hd
   simp only[Option.some.injEq] at h
   subst h
   exact go κ _ rfl (by simp[Leaf.ok]) (by simp[Leaf.keys]) fun w=> .inl (by rw[(VO (hT t _ hd).2.2.1 w).2];simp[Jq,Leaf.cells])
  ·rename_i κ n o z hd
   simp only[Option.some.injEq] at h
   subst h
   obtain⟨fs,h1,h2,h3,h4,h5⟩:=hT t _ hd
   exact go κ _ rfl (fun x hx=>(h5 x hx).1) (fun x hx=>(h5 x hx).2) fun w=> .inl (VO (h3 γ) w).2
  ·rename_i κ e k hd
   simp only[Option.some.injEq] at h
   subst h
   exact go κ _ rfl (by simp[Leaf.ok]) (by simp[Leaf.keys]) fun w=> .inr ⟨_,(VO (hT t _ hd).2.2.2 w).2,rfl⟩
  ·cases h
 ·-- box
  rename_i t x heq
  simp only at heq
  subst heq
  have go:∀(κ:Nat) (l:List Leaf) (v:Value),hint= .key κ→a.eval x=v→v.cells=(Jq γ l).toArray→(∀x∈l,x.ok)→(∀x∈l,κ∉x.keys)→
    RunOk P (execOp a.eval ⟨dst,.box t x,ty,pos,after,guard⟩) w (Post B N w0 σ a ⟨some (.v (.one (.ptr κ 0))),[(κ,.blk t l)],[]⟩):=by
   intro κ l v hh hv hc hok hk
   subst hh
   have hr:(Instr.box t (a.eval x)).run P w= .ok (.pointer (some ⟨w.heap.size,0,none⟩)) (w.alloc (.cells (Jq γ l).toArray t)):=by
    simp[Instr.box,hv,newVar,newRow,hc]
   refine Jm hr ⟨_,?_,⟨trivial,trivial⟩,I.alloc hf hok hk⟩
   simp[SV.den,V1.den,Leaf.cells,bk]
  split at h
  ·rename_i κ l hx
   simp only[Option.some.injEq] at h
   subst h
   have ex:=I.eval hx
   refine go κ l _ rfl ex.1 rfl ex.2 fun y hy hy'=> ?_
   have:=Ja6 hx hf
   simp only[SV.keys,V1.keys,List.mem_flatMap,not_exists,not_and,Jbz] at this
   exact this y hy hy'
  ·rename_i κ y hx
   simp only[Option.some.injEq] at h
   subst h
   have ex:=I.eval hx
   have hyl:y.lone:=ex.2.2
   refine go κ [y] _ rfl ex.1 ?_ (by simpa using ex.2.1) fun z hz hz'=> ?_
   ·rw[show (SV.v (V1.one y)).den γ=(y.cells γ).headD undef from rfl,Va (QC I.cell1 hyl)]
    simp only[Jq,List.flatMap_cons,List.flatMap_nil,List.append_nil]
    conv=>rhs;rw[WB hyl]
   ·simp only[List.mem_singleton] at hz
    subst hz
    have:=Ja6 hx hf
    simp only[SV.keys,V1.keys,Jbz] at this
    exact this hz'
  ·cases h
 ·-- build
  rename_i t ps heq
  simp only at heq
  subst heq
  split at h
  ·rename_i n e k hd
   cases hall:ps.toList.all fun p=>decide (p.1<n) with
   |false=>simp[hall] at h
   |true=>
   simp only[hall,cond_true] at h
   cases hfi:JaT k ps.toList (Jg σ) (List.replicate n 0) with
   |none=>simp[hfi] at h
   | some l=>
    simp only[hfi,Option.bind_some,Ju,Option.some.injEq] at h
    subst h
    obtain⟨t1,t2,t3,t4,t5⟩:=hT t _ hd
    obtain⟨g1,g2⟩:=Jb8 I n ps.toList (List.replicate n 0) l (by simp) (by
     intro p hp
     simp only[List.all_eq_true,decide_eq_true_eq] at hall
     exact hall p hp) hfi
    have hb:P.built t (ps.map fun p=>(p.1,a.eval p.2)).toList=some (l.map (Value.int k)).toArray:=by
     cases hq:P.info? t with
     |none=>simp[hq] at t3
     | some i=>
      cases hq2:P.info? e with
      |none=>simp[hq2] at t4
      |some ie=>
       simp only[hq,Option.map_some,Option.some.injEq,Prod.mk.injEq] at t3
       simp only[hq2,Option.map_some,Option.some.injEq] at t4
       simp only[Program.built,hq,t1,t3.2,hq2,t4,Value.cells]
       simpa using g1
    have hr:=run_build (P:=P) w t _ _ hb
    refine Jm (v:= .agg (l.map (Value.int k)).toArray) hr ⟨γ,by simp[SV.den,V1.den,Jq,Leaf.cells],by intro x hx;simp only[List.mem_singleton] at hx;subst hx;exact g2,I⟩
  ·rename_i n offs z hd
   cases hfi:Jbv ps.toList (Jg σ) offs z with
   |none=>simp[hfi] at h
   | some l=>
    simp only[hfi,Option.bind_some,Ju,Option.some.injEq] at h
    subst h
    obtain⟨fs,t1,t2,t3,t4,t5⟩:=hT t _ hd
    obtain⟨g1,g2⟩:=Jcx I offs ps.toList z l (fun x hx=>(t5 x hx).1) hfi
    have hb:P.built t (ps.map fun p=>(p.1,a.eval p.2)).toList=some (Jq γ l).toArray:=by
     have hi:=t3 γ
     cases hq:P.info? t with
     |none=>simp[hq] at hi
     |some i=>
      simp only[hq,Option.map_some,Option.some.injEq,Prod.mk.injEq] at hi
      simp only[Program.built,hq,t1,hi.2,t2,Value.cells]
      simpa using g1
    have hr:=run_build (P:=P) w t _ _ hb
    exact Jm hr ⟨γ,rfl,g2,I⟩
  ·cases h
 ·-- buildSlice
  rename_i t n ps heq
  simp only at heq
  subst heq
  split at h
  ·rename_i e k κ' hd
   cases hc:(Nat.ble n 16777216&&ps.toList.all fun p=>decide (p.1<n)) with
   |false=>rw[hc] at h;cases h
   | true=>
    simp only[hc,cond_true] at h
    split at h
    ·rename_i l hl
     simp only[Option.some.injEq] at h
     subst h
     simp only[Bool.and_eq_true,List.all_eq_true,decide_eq_true_eq] at hc
     obtain⟨v,w',h1,h2⟩:=Jil (P:=P) (p:=[]) I (hT _ _ hd) hf (Nat.le_of_ble_eq_true hc.1) (ps:=ps.toList) (fun q hq=>hc.2 q hq) hl
     have e1:(ps.toList.map fun q=>(q.1,a.eval q.2)).toArray=ps.map fun p=>(p.1,a.eval p.2):=by
      rw[←List.map_toArray,Array.toArray_toList]
     rw[e1] at h1
     exact Jm h1 h2
    ·cases h
  ·rename_i e sz κ' hd
   split at h
   ·rename_i ls hlit
    simp only[Option.some.injEq] at h
    subst h
    obtain⟨v,w',h1,h2⟩:=JgE (P:=P) (p:=[]) I (hT _ _ hd) hf hlit
    have e1:(ps.toList.map fun q=>(q.1,a.eval q.2)).toArray=ps.map fun p=>(p.1,a.eval p.2):=by
     rw[←List.map_toArray,Array.toArray_toList]
    rw[e1] at h1
    exact Jm h1 h2
   ·cases h
  ·rename_i e sz κ' hd
   split at h
   ·rename_i o r fr hlit
    simp only[Option.some.injEq] at h
    subst h
    obtain⟨v,w',h1,h2⟩:=JhJ (P:=P) (p:=[]) I (hT _ _ hd) hf hlit
    have e1:(ps.toList.map fun q=>(q.1,a.eval q.2)).toArray=ps.map fun p=>(p.1,a.eval p.2):=by
     rw[←List.map_toArray,Array.toArray_toList]
    rw[e1] at h1
    exact Jm h1 h2
   split at h
   ·rename_i e2 k hde
    cases hc:(Nat.beq sz 1&&Nat.ble n 16777216&&Nat.beq ps.toList.length n) with
    |false=>rw[hc] at h;cases h
    | true=>
     simp only[hc,cond_true] at h
     split at h
     ·rename_i ll hl
      simp only[Option.some.injEq] at h
      subst h
      simp only[Bool.and_eq_true] at hc
      obtain⟨⟨c1,c2⟩,c3⟩:=hc
      obtain rfl:=Nat.eq_of_beq_eq_true c1
      obtain⟨v,w',h1,h2⟩:=Jg7 (P:=P) (p:=[]) I (hT _ _ hd) (hT _ _ hde) hf (Nat.le_of_ble_eq_true c2) (ps:=ps.toList) (Nat.eq_of_beq_eq_true c3) hl
      have e1:(ps.toList.map fun q=>(q.1,a.eval q.2)).toArray=ps.map fun p=>(p.1,a.eval p.2):=by
       rw[←List.map_toArray,Array.toArray_toList]
      rw[e1] at h1
      exact Jm h1 h2
     ·cases h
   ·cases h
  ·cases h
 ·-- makeSlice
  rename_i t x y heq
  simp only at heq
  subst heq
  split at h
  ·rename_i e k k1 n k2 m κ' hd hx hy
   simp only[Option.some.injEq] at h
   subst h
   obtain⟨hnm,h0,h1⟩:n=m∧0≤n∧n≤Qi:=hn
   subst hnm
   have ex:a.eval x= .int k1 n:=(I.eval hx).1
   have ey:a.eval y= .int k2 n:=(I.eval hy).1
   obtain⟨v,w',r1,r2⟩:=Jjc (P:=P) (k1:=k1) (k2:=k2) (p:=[n=n,0≤n∧n≤Qi]) I (hT _ _ hd) hf h0 h1
   rw[←ex,←ey] at r1
   exact Jm r1 r2
  ·cases h
 ·-- load
  rename_i t x heq
  simp only at heq
  subst heq
  cases hx:Jg σ x with
  |none=>simp[hx] at h
  |some u=>
   simp only[hx,Option.bind_some] at h
   refine Yg h hn fun eff' h' hn'=> ?_
   have ex:=I.eval hx
   obtain⟨v,h1,h2⟩:=JjC hT I hf ex.2 h' hn'
   rw[←ex.1] at h1
   exact Jm h1 h2
 ·-- store
  rename_i t x y heq
  simp only at heq
  subst heq
  split at h
  ·rename_i u v hx hy
   have ex:=I.eval hx
   have ey:=I.eval hy
   obtain⟨w',h1,h2,h3⟩:=Jhd hT I ex.2 ey.2 h hn
   rw[←ex.1,←ey.1] at h2
   obtain⟨ev,ew,en⟩:=eff
   simp only at h1
   subst h1
   exact JeY h2 ⟨γ,rfl,by intro x hx;simp at hx,h3⟩
  ·cases h
 ·-- fieldAddr
  rename_i t x f heq
  simp only at heq
  subst heq
  split at h
  ·rename_i n offs z κ off hd hx
   cases hof:offs[f]? with
   |none=>simp[hof] at h
   | some o=>
    obtain⟨oo,os⟩:=o
    simp only[hof,Option.bind_some] at h
    cases hs:Nat.ble 1 os with
    |false=>simp[hs] at h
    | true=>
     simp only[hs,cond_true,Ju,Option.some.injEq] at h
     subst h
     obtain⟨fs,t1,t2,_⟩:=hT t _ hd
     obtain⟨fl,hfl,i,hi1,hi2,hi3⟩:=JaF t2 f hof
     have e1:a.eval x= .pointer (some ⟨bk γ κ,off,none⟩):=(I.eval hx).1
     have hsz:i.size≠0:=by have:=Nat.le_of_ble_eq_true hs;omega
     have hr:(Instr.fieldAt t (a.eval x) f).run P w= .ok (.pointer (some ⟨bk γ κ,off+oo,none⟩)) w:=by
      rw[e1]
      have hfl':fs[f]? =some fl:=by simpa using hfl
      simp[Instr.fieldAt,run_underlying t1,hfl',Instr.sureAddr,fieldPlace,Vz (P:=P) (t:=fl.type) (n:=i.size) (by simp[hi1]),hsz,Jn,hi2]
     exact Jm hr ⟨γ,rfl,⟨trivial,trivial⟩,I⟩
  ·rename_i n offs z κ sz i off hd hx
   have ex:=I.eval hx
   have go:∀(e:Ent) (r:RowsK),Jh σ κ=some e→Jk1 e=some r→((offs[f]?).bind fun o=>bif Nat.ble 1 o.2 then Vp (.v (.one (.per κ sz i (off+o.1)))) (0≤i∧i<r.len) else none)=some eff→
     RunOk P (execOp a.eval ⟨dst,.fieldAddr t x f,ty,pos,after,guard⟩) w (Post B N w0 σ a eff):=by
    intro e r hk he h
    cases hof:offs[f]? with
    |none=>simp[hof] at h
    | some o=>
     obtain⟨oo,os⟩:=o
     simp only[hof,Option.bind_some] at h
     cases hs:Nat.ble 1 os with
     |false=>simp[hs] at h
     | true=>
      simp only[hs,cond_true,Vp,Option.some.injEq] at h
      subst h
      obtain⟨h0,h1⟩:0≤i∧i<r.len:=hn
      obtain⟨ad,cap,hv,hsp⟩:=Jez he (I.key hk).2 (show 0<r.len by omega)
      obtain⟨fs,t1,t2,_⟩:=hT t _ hd
      obtain⟨fl,hfl,inf,hi1,hi2,hi3⟩:=JaF t2 f hof
      have e1:a.eval x= .pointer (some (ad.add (i.toNat*sz+off))):=by rw[ex.1];simp only[SV.den,V1.den,Leaf.cells,List.headD_cons,hv,JM]
      have hsz:inf.size≠0:=by have:=Nat.le_of_ble_eq_true hs;omega
      have hr:(Instr.fieldAt t (a.eval x) f).run P w= .ok (JM (γ κ) (i.toNat*sz+(off+oo))) w:=by
       rw[e1,hv]
       have hfl':fs[f]? =some fl:=by simpa using hfl
       simp[Instr.fieldAt,run_underlying t1,hfl',Instr.sureAddr,fieldPlace,Vz (P:=P) (t:=fl.type) (n:=inf.size) (by simp[hi1]),hsz,YZ hsp,hi2,JM,Nat.add_assoc]
      exact Jm hr ⟨γ,rfl,⟨h0,trivial⟩,I⟩
   split at h
   ·rename_i r hk;exact go _ r hk rfl h
   ·rename_i e r hk;exact go _ r hk rfl h
   ·rename_i e eb' m' r hk;exact go _ r hk rfl h
   ·cases h
  ·cases h
 ·-- indexAddr
  rename_i t x i heq
  simp only at heq
  subst heq
  split at h
  ·rename_i n e k κ off kj j hd hx hi
   simp only[Vp,Option.some.injEq] at h
   subst h
   obtain⟨h0,h1⟩:0≤j∧j<n:=hn
   have e1:a.eval x= .pointer (some ⟨bk γ κ,off,none⟩):=(I.eval hx).1
   have e2:a.eval i= .int kj j:=(I.eval hi).1
   obtain⟨t1,t2,t3,t4,t5⟩:=hT t _ hd
   have hr:(Instr.indexAt t (a.eval x) (a.eval i)).run P w= .ok (.pointer (some ⟨bk γ κ,off+j.toNat,none⟩)) w:=by
    rw[e1,e2]
    simp[Instr.indexAt,asIntOf,run_underlying t1,Instr.sureAddr,h0,h1,Vz t4,Jn]
   exact Jm hr ⟨γ,rfl,⟨⟨h0,h1⟩,trivial⟩,I⟩
  ·rename_i e k κ kj j hd hx hi
   have go:∀(k:IntKind) (l:List Int),RdI w (γ κ) k l→Vp (.v (.one (.per κ 1 j 0))) (0≤j∧j<l.length)=some eff→
     RunOk P (execOp a.eval ⟨dst,.indexAddr t x i,ty,pos,after,guard⟩) w (Post B N w0 σ a eff):=by
    intro k l hr h
    simp only[Vp,Option.some.injEq] at h
    subst h
    obtain⟨h0,h1⟩:0≤j∧j<l.length:=hn
    have e1:a.eval x=γ κ:=(I.eval hx).1
    have e2:a.eval i= .int kj j:=(I.eval hi).1
    obtain⟨t1,t2,t3,t4⟩:=hT t _ hd
    have hsz:∀w,(sizeOf e).run P w= .ok 1 w:=fun w=>by
     cases hq:P.info? e with
     |none=>simp[hq] at t3
     |some i=>simp[hq] at t3;simp[sizeOf,typeInfo,hq,t3.1]
    have hr':(Instr.indexAt t (a.eval x) (a.eval i)).run P w= .ok (JM (γ κ) (j.toNat*1+0)) w:=by
     rcases hr with⟨_,rfl⟩|⟨ad,cap,hv,_⟩
     ·simp at h1;omega
     ·rw[e1,e2,hv]
      simp[Instr.indexAt,asIntOf,run_underlying t1,h0,h1,hsz,JM]
    exact Jm hr' ⟨γ,rfl,⟨h0,trivial⟩,I⟩
   split at h
   ·rename_i k l hk;exact go k l (I.key hk).2 h
   ·rename_i k l hk;exact go k l (I.key hk).2.1 h
   ·rename_i e' k l hk;exact go k l (Ql (I.key hk).2.1) h
   ·cases h
  ·rename_i e sz κ kj j hd hx hi
   have go:∀(x':Ent) (r:RowsK),Jh σ κ=some x'→Jk1 x'=some r→(bif Nat.beq sz r.sz then Vp (.v (.one (.per κ sz j 0))) (0≤j∧j<r.len) else none)=some eff→
     RunOk P (execOp a.eval ⟨dst,.indexAddr t x i,ty,pos,after,guard⟩) w (Post B N w0 σ a eff):=by
    intro x' r hk he h
    cases hs:Nat.beq sz r.sz with
    |false=>simp[hs] at h
    | true=>
     simp only[hs,cond_true,Vp,Option.some.injEq] at h
     subst h
     obtain⟨h0,h1⟩:0≤j∧j<r.len:=hn
     obtain⟨ad,cap,hv,hsp⟩:=Jez he (I.key hk).2 (show 0<r.len by omega)
     have e1:a.eval x=γ κ:=(I.eval hx).1
     have e2:a.eval i= .int kj j:=(I.eval hi).1
     obtain⟨t1,t2,t3⟩:=hT t _ hd
     have hr':(Instr.indexAt t (a.eval x) (a.eval i)).run P w= .ok (JM (γ κ) (j.toNat*sz+0)) w:=by
      rw[e1,e2,hv]
      simp[Instr.indexAt,asIntOf,run_underlying t1,h0,h1,Vz t2,JM]
     exact Jm hr' ⟨γ,rfl,⟨h0,trivial⟩,I⟩
   split at h
   ·rename_i r hk;exact go _ r hk rfl h
   ·rename_i e' r hk;exact go _ r hk rfl h
   ·rename_i e' eb' m' r hk;exact go _ r hk rfl h
   ·cases h
  ·cases h
 ·-- slice
  rename_i t x lo hi heq
  simp only at heq
  subst heq
  split at h
  ·rename_i n e k κ off l0 h0 hd hx hlo hhi
   split at h
   ·rename_i l1 h1 hb1 hb2
    cases hnb:Nat.ble n maxLen with
    |false=>simp[hnb] at h
    |true=>
    simp only[hnb,cond_true,Vp,Option.some.injEq] at h
    subst h
    have hml:=Nat.le_of_ble_eq_true hnb
    obtain⟨c1,c2,c3⟩:0≤l1∧l1≤h1∧h1≤n:=hn
    have e1:a.eval x= .pointer (some ⟨bk γ κ,off,none⟩):=(I.eval hx).1
    obtain⟨t1,t2,t3,t4,t5⟩:=hT t _ hd
    have b1:=Jbu I hlo hb1
    have b2:=Jbu I hhi hb2
    have hr:(Instr.sliceAt t (a.eval x) (lo.map a.eval) (hi.map a.eval) none).run P w=
      .ok (.slice (some ⟨bk γ κ,if n=l1.toNat then off else off+l1.toNat,none⟩) (h1.toNat-l1.toNat) (n-l1.toNat)) w:=by
     rw[e1]
     generalize lo.map a.eval=lo' at b1
     generalize hi.map a.eval=hi' at b2
     have fin:(if n=l1.toNat then(⟨bk γ κ,off,none⟩:Addr) else⟨bk γ κ,off+l1.toNat,none⟩)=⟨bk γ κ,if n=l1.toNat then off else off+l1.toNat,none⟩:=by split<;>rfl
     rcases b1 with⟨rfl,rfl⟩|⟨kk,rfl⟩<;>rcases b2 with⟨rfl,rfl⟩|⟨kk',rfl⟩
     ·simp[Instr.sliceAt,run_underlying t1,Instr.sureAddr,Instr.sliceBounds,Vz t4,Jn]
     ·have q1:0≤h1:=by omega
      simp[Instr.sliceAt,run_underlying t1,Instr.sureAddr,Instr.sliceBounds,run_sliceBound_if,q1,c3,Vz t4,Jn]
     ·simp[Instr.sliceAt,run_underlying t1,Instr.sureAddr,Instr.sliceBounds,run_sliceBound_if,c1,c2,Vz t4,Jn,fin]
     ·have q1:0≤h1:=by omega
      simp[Instr.sliceAt,run_underlying t1,Instr.sureAddr,Instr.sliceBounds,run_sliceBound_if,q1,c3,c1,c2,Int.max_eq_left q1,Vz t4,Jn,fin]
    exact Jm hr ⟨γ,rfl,⟨⟨c1,c2,c3,hml⟩,trivial⟩,I⟩
   ·cases h
  ·rename_i e k κ l0 h0 hd hx hlo hhi
   have e1:a.eval x=γ κ:=(I.eval hx).1
   have hex:execOp a.eval ⟨dst,.slice t x lo hi none,ty,pos,after,guard⟩=(do pure (.value (←Instr.sliceAt t (a.eval x) (lo.map a.eval) (hi.map a.eval) none))):=rfl
   rw[hex,e1]
   unfold Jel at h
   split at h
   ·rename_i k2 l κ' hk
    split at h
    ·rename_i m n hb1 hb2
     simp only[Option.some.injEq] at h
     subst h
     obtain⟨c1,c2,c3⟩:0≤m∧m≤n∧n≤l.length:=hn
     obtain⟨v,r1,r2⟩:=Jga (P:=P) (p:=[0≤m∧m≤n∧n≤l.length]) (hT _ _ hd) I (I.key hk).1 rfl (I.key hk).2 (fun b hb=>hb) hf (Jbu I hlo hb1) (Jbu I hhi hb2) c1 c2 c3
     exact Jm r1 r2
    ·cases h
   ·rename_i k2 l κ' hk
    split at h
    ·rename_i m n hb1 hb2
     simp only[Option.some.injEq] at h
     subst h
     obtain⟨c1,c2,c3⟩:0≤m∧m≤n∧n≤l.length:=hn
     obtain⟨v,r1,r2⟩:=Jga (P:=P) (p:=[0≤m∧m≤n∧n≤l.length]) (hT _ _ hd) I (I.key hk).1 rfl (I.key hk).2.1 (fun b hb=>hb) hf (Jbu I hlo hb1) (Jbu I hhi hb2) c1 c2 c3
     exact Jm r1 r2
    ·cases h
   ·rename_i e2 k2 l κ' hk
    split at h
    ·rename_i n hb2
     simp only[Option.some.injEq] at h
     subst h
     obtain⟨c2,c3⟩:0≤n∧n≤l.length:=hn
     rw[Jgl hlo]
     obtain⟨v,r1,r2⟩:=JhO (P:=P) (p:=[0≤n∧n≤l.length]) (hT _ _ hd) I (I.key hk).1 hf (Jbu I hhi hb2) c2 c3
     exact Jm r1 r2
    ·cases h
   ·cases h
  ·rename_i e sz κ l0 h0 hd hx hlo hhi
   have e1:a.eval x=γ κ:=(I.eval hx).1
   have hex:execOp a.eval ⟨dst,.slice t x lo hi none,ty,pos,after,guard⟩=(do pure (.value (←Instr.sliceAt t (a.eval x) (lo.map a.eval) (hi.map a.eval) none))):=rfl
   rw[hex,e1]
   unfold Jcg at h
   split at h
   ·rename_i ll κ' hk
    split at h
    ·rename_i n hb2
     simp only[Option.some.injEq] at h
     subst h
     obtain⟨c2,c3⟩:0≤n∧n≤ll.length:=hn
     rw[Jgl hlo]
     obtain⟨v,r1,r2⟩:=Jgt (P:=P) (p:=[0≤n∧n≤ll.length]) (hT _ _ hd) I (I.key hk).1 hf (Jbu I hhi hb2) c2 c3
     exact Jm r1 r2
    ·rename_i k m n hb2
     cases hs2:Nat.beq sz 2 with
     |false=>simp[hs2] at h
     |true=>
      simp only[hs2,cond_true,Option.some.injEq] at h
      subst h
      obtain⟨c1,c2,c3⟩:0≤m∧m≤n∧n≤ll.length:=hn
      obtain⟨v,r1,r2⟩:=JeX (P:=P) (p:=[0≤m∧m≤n∧n≤ll.length]) (hT _ _ hd) (Nat.eq_of_beq_eq_true hs2) I (I.key hk).1 hf (Jbu I hlo rfl) (Jbu I hhi hb2) c1 c2 c3
      exact Jm r1 r2
    ·cases h
   ·cases h
  ·rename_i e k l0 h0 hd hx hlo hhi
   have e1:a.eval x= .slice none 0 0:=(I.eval hx).1
   split at h
   ·rename_i m n hb1 hb2
    simp only[Vp,Option.some.injEq] at h
    subst h
    obtain⟨c1,c2⟩:m=0∧n=0:=hn
    subst c1;subst c2
    obtain⟨t1,t2,t3,t4⟩:=hT t _ hd
    have hsz:∀w,(sizeOf e).run P w= .ok 1 w:=fun w=>by
     cases hq:P.info? e with
     |none=>simp[hq] at t3
     |some i=>simp[hq] at t3;simp[sizeOf,typeInfo,hq,t3.1]
    have hr:=VT (P:=P) (ad:=none) (len:=0) (cap:=0) t1 hsz (Jbu I hlo hb1) (Jbu I hhi hb2) (Int.le_refl 0) (Int.le_refl 0) (Int.le_refl 0) w
    rw[←e1] at hr
    exact Jm hr (val (.v (.one .nils)) ⟨trivial,trivial⟩)
   ·cases h
  ·cases h
 ·-- len
  rename_i args ats heq
  simp only at heq
  subst heq
  have hex:execOp a.eval ⟨dst,.call ⟨.builtin .len,args,ats⟩,ty,pos,after,guard⟩=(do pure (.value (←Builtin.len_ ats ty (args.map a.eval)))):=rfl
  rw[hex]
  split at h
  ·rename_i n e k _ ht hx
   simp only[Ju,Option.some.injEq] at h
   subst h
   cases ht0:ats[0]? with
   |none=>simp[ht0] at ht
   | some t=>
    simp only[ht0,Option.bind_some] at ht
    cases ha0:args[0]? with
    |none=>simp[ha0] at hx
    | some x=>
     have hr:(Builtin.len_ ats ty (args.map a.eval)).run P w= .ok (.int .i64 n) w:=by
      simp[Builtin.len_,ht0,ha0,run_underlying (hT t _ ht).1,goInt]
     exact Jm hr (val (Yn .i64 n) ⟨trivial,trivial⟩)
  ·rename_i e k x0 ht hx
   exact lenCase (.slice e k) _ (fun t ht=>⟨e,(hT t _ ht).1⟩) ht hx h
  ·rename_i e k x0 ht hx
   exact lenCase (.sliceR e k) _ (fun t ht=>⟨e,(hT t _ ht).1⟩) ht hx h
  ·cases h
 ·-- cap
  rename_i args ats heq
  simp only at heq
  subst heq
  have hex:execOp a.eval ⟨dst,.call ⟨.builtin .cap,args,ats⟩,ty,pos,after,guard⟩=(do pure (.value (←Builtin.cap_ ats ty (args.map a.eval)))):=rfl
  rw[hex]
  split at h
  ·rename_i e k ht hx
   simp only[Ju,Option.some.injEq] at h
   subst h
   cases ht0:ats[0]? with
   |none=>simp[ht0] at ht
   | some t=>
    simp only[ht0,Option.bind_some] at ht
    cases ha0:args[0]? with
    |none=>simp[ha0] at hx
    | some x=>
     simp only[ha0,Option.bind_some] at hx
     have e1:a.eval x= .slice none 0 0:=(I.eval hx).1
     have hr:(Builtin.cap_ ats ty (args.map a.eval)).run P w= .ok (.int .i64 0) w:=by
      simp[Builtin.cap_,ht0,ha0,run_underlying (hT t _ ht).1,goInt,e1]
     exact Jm hr (val (Yn .i64 0) ⟨trivial,trivial⟩)
  ·cases h
 ·-- max
  rename_i args ats heq
  simp only at heq
  subst heq
  have hex:execOp a.eval ⟨dst,.call ⟨.builtin .max,args,ats⟩,ty,pos,after,guard⟩=(do pure (.value (←Builtin.max_ ats ty (args.map a.eval)))):=rfl
  rw[hex]
  split at h
  ·rename_i k x k' y hx hy
   cases hc:(keq k k'&&Nat.beq args.size 2) with
   |false=>simp[hc] at h
   | true=>
    simp only[hc,cond_true,Ju,Option.some.injEq] at h
    subst h
    simp only[Bool.and_eq_true] at hc
    have hsz:=Nat.eq_of_beq_eq_true hc.2
    obtain⟨u,v,rfl⟩:∃u v,args= #[u,v]:=by
     match args,hsz with
     |⟨[u,v]⟩,_=>exact⟨u,v,rfl⟩
    simp only[List.getElem?_toArray,List.getElem?_cons_zero,List.getElem?_cons_succ,Option.bind_some] at hx hy
    have e1:a.eval u= .int k x:=(I.eval hx).1
    have e2:a.eval v= .int k' y:=(I.eval hy).1
    have hr:(Builtin.max_ ats ty ((#[u,v]:Array Operand).map a.eval)).run P w= .ok (.int k (if y>x then y else x)) w:=by
     simp[Builtin.max_,e1,e2,Builtin.max2]
    exact Jm hr (val (Yn k (if y>x then y else x)) ⟨trivial,trivial⟩)
  ·cases h
 ·-- min
  rename_i args ats heq
  simp only at heq
  subst heq
  have hex:execOp a.eval ⟨dst,.call ⟨.builtin .min,args,ats⟩,ty,pos,after,guard⟩=(do pure (.value (←Builtin.min_ ats ty (args.map a.eval)))):=rfl
  rw[hex]
  split at h
  ·rename_i k x k' y hx hy
   cases hc:(keq k k'&&Nat.beq args.size 2) with
   |false=>simp[hc] at h
   | true=>
    simp only[hc,cond_true,Ju,Option.some.injEq] at h
    subst h
    simp only[Bool.and_eq_true] at hc
    have hsz:=Nat.eq_of_beq_eq_true hc.2
    obtain⟨u,v,rfl⟩:∃u v,args= #[u,v]:=by
     match args,hsz with
     |⟨[u,v]⟩,_=>exact⟨u,v,rfl⟩
    simp only[List.getElem?_toArray,List.getElem?_cons_zero,List.getElem?_cons_succ,Option.bind_some] at hx hy
    have e1:a.eval u= .int k x:=(I.eval hx).1
    have e2:a.eval v= .int k' y:=(I.eval hy).1
    have hr:(Builtin.min_ ats ty ((#[u,v]:Array Operand).map a.eval)).run P w= .ok (.int k (if y<x then y else x)) w:=by
     simp[Builtin.min_,e1,e2,Builtin.min2]
    exact Jm hr (val (Yn k (if y<x then y else x)) ⟨trivial,trivial⟩)
  ·cases h
 ·-- append
  rename_i args ats heq
  simp only at heq
  subst heq
  have hex:execOp a.eval ⟨dst,.call ⟨.builtin .append,args,ats⟩,ty,pos,after,guard⟩=(do pure (.value (←Builtin.append_ ats ty (args.map a.eval)))):=rfl
  rw[hex]
  split at h
  ·rename_i x y t t' ha ht
   cases hc:Nat.beq t t' with
   | false=>
    simp only[hc,cond_false] at h
    have ea:args= #[x,y]:=by rw[←Array.toArray_toList (xs:=args),ha]
    have et:ats= #[t,t']:=by rw[←Array.toArray_toList (xs:=ats),ht]
    subst ea;subst et
    split at h
    ·rename_i e k kn k1 n κ' hd hd' hx hy
     simp only[Option.some.injEq] at h
     subst h
     obtain⟨q1,q2⟩:0<n∧n≤Qi:=hn
     obtain⟨r,w',h1,h2⟩:=Jit (P:=P) (ty:=ty) (k1:=k1) (p:=[0<n∧n≤Qi]) I (hT _ _ hd) (hT _ _ hd') hf q1 q2
     have ex:a.eval x= .slice none 0 0:=(I.eval hx).1
     have ey:a.eval y= .int k1 n:=(I.eval hy).1
     rw[←ex,←ey] at h1
     exact Jm (by simpa using h1) h2
    ·rename_i e k kn κ k1 n κ' hd hd' hx hy
     split at h
     ·rename_i e' k' l hk
      cases hc2:(keq k k'&&Nat.beq e e') with
      |false=>simp[hc2] at h
      |true=>
       simp only[hc2,cond_true,Option.some.injEq] at h
       subst h
       simp only[Bool.and_eq_true] at hc2
       obtain rfl:=WF hc2.1
       obtain rfl:=Nat.eq_of_beq_eq_true hc2.2
       obtain⟨q1,q2⟩:0≤n∧l.length+n≤Qi:=hn
       obtain⟨r,w',h1,h2⟩:=Jby (P:=P) (ty:=ty) (k1:=k1) (p:=[0≤n∧l.length+n≤Qi]) I (hT _ _ hd) (hT _ _ hd') (I.key hk).1 hf q1 q2
       have ex:a.eval x=γ κ:=(I.eval hx).1
       have ey:a.eval y= .int k1 n:=(I.eval hy).1
       rw[←ex,←ey] at h1
       exact Jm (by simpa using h1) h2
     ·cases h
    ·cases h
   | true=>
    obtain rfl:=Nat.eq_of_beq_eq_true hc
    simp only[hc,cond_true] at h
    have ea:args= #[x,y]:=by rw[←Array.toArray_toList (xs:=args),ha]
    have et:ats= #[t,t]:=by rw[←Array.toArray_toList (xs:=ats),ht]
    subst ea;subst et
    split at h
    ·rename_i u v hx hy
     split at h
     ·obtain⟨r,w',h1,h2⟩:=JdJ (ty:=ty) hT I hf h hn
      rw[←(I.eval hx).1,←(I.eval hy).1] at h1
      exact Jm (by simpa using h1) h2
     ·obtain⟨r,w',h1,h2⟩:=JdU (ty:=ty) hT I hf h hn
      rw[←(I.eval hx).1,←(I.eval hy).1] at h1
      exact Jm (by simpa using h1) h2
    ·cases h
  ·cases h
 ·-- call
  rename_i c args ats heq
  simp only at heq
  subst heq
  split at h
  ·rename_i ks res news f hc
   simp only[JkQ] at h
   split at h
   ·rename_i l hl
    cases htk:Jbk σ ks news with
    |false=>simp[htk] at h
    |true=>
    simp only[htk,cond_true,Option.some.injEq] at h
    subst h
    have ec:a.eval c= .func (.func f) #[] #[]:=(I.eval hc).1
    obtain⟨e1,e2⟩:=Jch I _ _ hl
    have e3:args.map a.eval=(l.map (SV.den γ)).toArray:=by rw[←e1,←List.map_toArray,Array.toArray_toList]
    have ap:YQ γ w (YY σ ks):=fun p hp q hq hne hm b hb=>
     I.apart p.1 p.2 q.1 q.2 (I.key ((Yd ks p).1 hp).2).1 (I.key ((Yd ks q).1 hq).2).1 hne hm b hb
    have:=hn B γ w (Jds I _) ap e2 (fun b hb=>I.top b (Nat.le_trans I.below.size hb)) I.cell1
    rw[←e3] at this
    have hex:execOp a.eval ⟨dst,.call ⟨.value c,args,ats⟩,ty,pos,after,guard⟩=(do let d ←resolve a.eval ⟨.value c,args,ats⟩ ty;invoke d.target d.args):=rfl
    rw[hex]
    unfold RunOk at this ⊢
    simp only[resolve,ec,Deferred.ofValue,Sem.run_bind,Sem.run_pure,Result.andThen_ok,invoke,Array.empty_append,Array.append_empty]
    have fin:∀v w',(∃γ':Nat→Value,(∀κ,(∀p∈news,p.1=κ→∃q∈YY σ ks,q.1=κ)→γ' κ=γ κ)∧(∀κ,(γ' κ).oneCell'=true)∧v=res.den γ'∧res.ok∧BelowX (Touch γ w (YY σ ks) news) w w'∧
      (∀p∈news,p.2.at (Touch γ w (YY σ ks) news) γ' w' p.1∧∀b,p.2.foot γ' w' p.1 b→Touch γ w (YY σ ks) news b)∧YQ γ' w' news)→
      Post B N w0 σ a ⟨some res,news,[CallOk P f l (YY σ ks) res news]⟩ v w':=by
     rintro v w' ⟨γ',g1,g2,g3,g4,g5,g6,g7⟩
     have hu:∀κ,((∃p∈news,p.1=κ)∧ks.any (Nat.beq κ)=true)→∃e,Jh σ κ=some e∧e.mut=true:=by
      rintro κ ⟨⟨p,hp,rfl⟩,hk⟩
      exact Jci htk p hp hk
     have tch:∀b,Touch γ w (YY σ ks) news b→YM σ γ w (fun κ=>(∃p∈news,p.1=κ)∧ks.any (Nat.beq κ)=true) b:=by
      rintro b (h|⟨p,hp,hm,⟨q,hq,hqe⟩,hb⟩)
      ·exact .inl h
      ·exact .inr ⟨p.1,p.2,⟨⟨q,hq,hqe⟩,Jcv.2 ((Yd ks p).1 hp).1⟩,(I.key ((Yd ks p).1 hp).2).1,hb⟩
     refine⟨γ',g3,g4,I.newsR (fun κ=>(∃p∈news,p.1=κ)∧ks.any (Nat.beq κ)=true) (fun p hp=> ?_) (fun κ hκ=> ?_) (fun κ hκ=>g1 κ fun p hp hpe=> ?_) g2 (g5.mono fun b _ h=>tch b h) (fun p hp=> ?_) g7⟩
     ·rcases hf p hp with h|h
      ·exact .inl h
      ·exact .inr ⟨⟨p,hp,rfl⟩,h⟩
     ·obtain⟨e,he,hm⟩:=hu κ hκ
      exact⟨hκ.1,e,(I.key he).1,hm⟩
     ·have hκ':=hκ p hp hpe
      obtain⟨e,he,hm⟩:=hu κ hκ'
      exact⟨(κ,e),(Yd ks _).2 ⟨Jcv.1 hκ'.2,he⟩,rfl⟩
     ·exact⟨Ent.at_mono tch (g6 p hp).1,fun b hb=>tch b ((g6 p hp).2 b hb)⟩
    generalize (callFunc f (args.map a.eval)).run P w=r at this ⊢
    cases r with
    | ok x w'=>
     cases x<;>first
      |exact fin _ _ this
      |exact Calls.mono this fun e w'' ⟨v,h1,h2⟩=>⟨v,h1,fin _ _ h2⟩
      |exact this
    |halt x w'=>exact this
   ·cases h
  ·cases h
 ·cases h
theorem Jlm {wr:List (Nat×Ent)} {κ:Nat} {e:Ent} (h:∃p∈wr,p.1=κ) (σ:Stt):Wl (Wl σ [(κ,e)]) wr=Wl σ wr:=by
 funext l
 induction wr with
 |nil=>obtain⟨p,hp,_⟩:=h;cases hp
 | cons q r ih=>
  obtain⟨κ',e'⟩:=q
  by_cases hl:l= .h κ'
  ·subst hl
   simp only[Wl,XU]
  ·show JdP (Wl (JdP σ (.h κ) (.e e)) r) (.h κ') (.e e') l=JdP (Wl σ r) (.h κ') (.e e') l
   rw[WH _ _ (Ne.symm hl),WH _ _ (Ne.symm hl)]
   by_cases hr:∃p∈r,p.1=κ
   ·exact ih hr
   ·obtain⟨p,hp,hpe⟩:=h
    have hκ:κ'=κ:=by
     rcases List.mem_cons.1 hp with rfl|hp
     ·exact hpe
     ·exact absurd ⟨p,hp,hpe⟩ hr
    subst hκ
    have:∀(r:List (Nat×Ent)) (σ1 σ2:Stt),σ1 l=σ2 l→Wl σ1 r l=Wl σ2 r l:=by
     intro r
     induction r with
     |nil=>intro σ1 σ2 h;exact h
     |cons q r ih2=>
      intro σ1 σ2 h
      obtain⟨κ2,e2⟩:=q
      simp only[Wl]
      by_cases h2:l= .h κ2
      ·subst h2;rw[XU,XU]
      ·rw[WH _ _ (Ne.symm h2),WH _ _ (Ne.symm h2)];exact ih2 _ _ h
    exact this r _ _ (WH _ _ (Ne.symm hl))
theorem Inv.arena0 (I:Inv B N w0 γ σ a w) {κ:Nat} (hf:NoKey κ σ):Inv B N w0 (fun x=>if x=κ then skV [] else γ x) (Wl σ [(κ,.arena true [] [])]) a w:=by
 have foot:∀b,¬Ve (skV []) ([]:AH) b:=fun b ⟨i,hi,_⟩=>by
  have:=WN hi
  simp at this
 refine I.fresh hf rfl (BelowX.refl _ w) ⟨?_,fun _ b hb=> ?_,fun κb hb=>by cases hb⟩ (fun b hb=> ?_)
 ·show Ar w (if κ=κ then skV [] else γ κ) []
  rw[if_pos rfl]
  exact⟨⟨[],rfl⟩,by simp[YX],(fun i hi=>by simp at hi),(fun i j b _ hi=>by have:=WN hi;simp at this),fun i=>by rw[Jgr (by simp)];exact Nat.zero_le _⟩
 ·replace hb:Ve (if κ=κ then skV [] else γ κ) [] b:=hb
  rw[if_pos rfl] at hb
  exact absurd hb (foot b)
 ·replace hb:Ve (if κ=κ then skV [] else γ κ) [] b:=hb
  rw[if_pos rfl] at hb
  exact absurd hb (foot b)
theorem Jc6 (hT:TOk P T) (I:Inv B N w0 γ σ a w) {hint:Hint} {o:Oper} {eff:Eff} (hf:Jd5 hint σ) (h:JaQ P T σ hint o.op=some eff) (hn:eff.need):
  RunOk P (execOp a.eval o) w (Post B N w0 σ a eff):=by
 cases hint with
 | ar κ ns=>
  simp only[JaQ] at h
  split at h
  ·rename_i rw' bs H he
   exact JdS hT I (I.key he).1 hf.1 hf.2 h hn
  ·cases h
 | arN κ ns=>
  simp only[JaQ] at h
  split at h
  ·rename_i e he
   cases hw:e.wr.any (fun p=>Nat.beq p.1 κ) with
   |false=>simp[hw] at h
   | true=>
    simp only[hw,cond_true,Option.some.injEq] at h
    subst h
    obtain⟨p,hp,hpe⟩:=List.any_eq_true.1 hw
    obtain⟨f1,f2,f3⟩:=hf
    have I0:=I.arena0 f1
    have hne:∀κ'∈ns,κ'≠κ:=fun κ' h e'=>by subst e';simp only[List.nodup_cons] at f3;exact f3.1 h
    have hs:∀x,Jg (Wl σ [(κ,.arena true [] [])]) x=Jg σ x:=fun x=>by
     cases x with
     |tmp t=>simp only[Jg,Jaj,WP]
     |_=>rfl
    have hl:∀κ',κ'≠κ→Jh (Wl σ [(κ,.arena true [] [])]) κ'=Jh σ κ':=fun κ' h=>by
     simp only[Jh,Wl]
     rw[WH _ _ (by simpa using Ne.symm h)]
    have he':arS T (Wl σ [(κ,.arena true [] [])]) κ ns true [] [] o.op=some e:=by
     rw[←he]
     exact Jcn (fun x _=>hs x) (fun x _ v hv κ' hκ'=>hl κ' fun e'=>Ja6 hv f1 (by rw[←e'];exact hκ'))
    have nk:∀κ'∈ns,NoKey κ' (Wl σ [(κ,.arena true [] [])]):=fun κ' h=>by
     obtain⟨n1,n2,n3⟩:=f2 κ' h
     refine⟨?_,fun l c hc=> ?_,n3⟩
     ·simp only[Wl]
      rw[WH _ _ (by simpa using Ne.symm (hne κ' h))]
      exact n1
     ·by_cases hlk:l= .h κ
      ·subst hlk
       simp only[Wl,XU,Option.some.injEq] at hc
       subst hc
       simp[Cont.keys,Ent.keys]
      ·simp only[Wl] at hc
       rw[WH _ _ (Ne.symm hlk)] at hc
       exact n2 l c hc
    have:=JdS hT I0 (by simp only[Wl];exact XU _ _ _) nk (List.nodup_cons.1 f3).2 he' hn
    refine RunOk.mono ?_ this
    rintro v w' ⟨γ',g1,g2,g3⟩
    rw[Jlm ⟨p,hp,Nat.eq_of_beq_eq_true hpe⟩] at g3
    exact⟨γ',g1,g2,g3⟩
  ·cases h
 | callA ks res news=>
  obtain⟨dst,op,ty,pos,after,guard⟩:=o
  simp only[JaQ] at h
  split at h
  ·rename_i _ c args ats
   split at h
   ·rename_i f hc
    simp only[JhG] at h
    split at h
    ·rename_i l pre nd hl hpre
     cases hck:(Jh9 ks&&JhA ks pre news) with
     |false=>simp[hck] at h
     |true=>
      simp only[hck,cond_true,Option.some.injEq] at h
      subst h
      simp only[Bool.and_eq_true] at hck
      obtain⟨n1,n2⟩:=VU.1 hn
      have ec:a.eval c= .func (.func f) #[] #[]:=(I.eval hc).1
      obtain⟨e1,e2⟩:=Jch I _ _ hl
      have e3:args.map a.eval=(l.map (SV.den γ)).toArray:=by rw[←e1,←List.map_toArray,Array.toArray_toList]
      have:=Jfz I hpre n1 hck.1 hck.2 hf e2 n2 (nn:=nd++[CallOk P f l pre res news])
      rw[←e3] at this
      have hex:execOp a.eval ⟨dst,.call ⟨.value c,args,ats⟩,ty,pos,after,guard⟩=(do let d ←resolve a.eval ⟨.value c,args,ats⟩ ty;invoke d.target d.args):=rfl
      rw[hex]
      unfold RunOk at this ⊢
      simpa only [resolve,ec,Deferred.ofValue,Sem.run_bind,Sem.run_pure,Result.andThen_ok,invoke,Array.empty_append,Array.append_empty] using this
    ·cases h
   ·cases h
  ·cases h
 |bb ns=>exact Jhk hT I hf.1 h hn
 |ei=>exact JhT hT I h
 |of ns=>exact JiQ hT I hf.1 h hn
 |oi ns=>exact Jhl hT I hf.1 h hn
 |gk ks=>exact Jh4 hT I hf.1 hf.2 h hn
 |pn=>exact Jhm hT I h
 | arW κ ns=>
  simp only[JaQ] at h
  split at h
  ·rename_i rw' bs H hk
   exact Jih hT I (I.key hk).1 hf.1 h hn
  ·cases h
 |no=>exact Xu hT I hf h hn
 |key κ=>exact Xu hT I hf h hn
 |dk κ eb=>exact Xu hT I hf h hn
 |lk κ=>exact Xu hT I hf h hn
 |dec b=>exact Xu hT I hf h hn
 |call ks res news=>exact Xu hT I hf h hn
end Go.Gw

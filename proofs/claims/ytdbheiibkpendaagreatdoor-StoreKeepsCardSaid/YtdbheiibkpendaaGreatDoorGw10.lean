/- The walk's engine, part 10: pieces of code, and whole functions. -/
import Derived.Test.YtdbheiibkpendaaGreatDoorGwT
namespace Go.Gw
open Go.RowKit
def At (B:Nat→Prop) (N:Nat) (w0:W0) (σ:SS) (a:Act) (w:World):Prop:=∃γ,Inv B N w0 γ (look σ) a w
abbrev Qt:=Exit→Act→World→Prop
def Tr (P:Program) (B:Nat→Prop) (N:Nat) (w0:W0) (c:Code) (σ:SS) (Q:Qt):Prop:=∀a w,At B N w0 σ a w→c.wp P Q a w
def TrR (P:Program) (B:Nat→Prop) (N:Nat) (w0:W0) (n:Nat) (c:Code) (σ:SS) (Q:Qt):Prop:=∀a w,At B N w0 σ a w→Code.rounds P c Q n a w
def QT (B:Nat→Prop) (N:Nat) (w0:W0) (σ:SS) (Q:Qt) (e:Exit):Prop:=∀a w,At B N w0 σ a w→Q e a w
def K (P:Program) (y:Code) (Q:Qt):Qt:=Exit.then (y.wp P Q) Q
def InB (id:Nat) (Q:Qt):Qt:=Exit.inBlock id Q
def KR (P:Program) (n:Nat) (c:Code) (Q:Qt):Qt:=Exit.then (Code.rounds P c Q n) Q
variable {P:Program} {T:TypeId→Option TD} {B:Nat→Prop} {N:Nat} {w0:W0} {σ σ':SS} {Q:Qt} {x y:Code}
theorem Ja (h:Tr P B N w0 x σ (K P y Q)):Tr P B N w0 (x.seq y) σ Q:=fun a w ha=>wp_seq (h a w ha)
theorem Jmf (hT:TOk P T) {id:Nat} {ops:Array Oper} (hs:List (Nat×Hint)) (live:List Loc) (σ':SS) (needs:List Prop)
  (h:JmO P T N ops.toList hs live σ=some (σ',needs)) (hn:Wn needs) (hQ:QT B N w0 σ' Q .normal):Tr P B N w0 (.region id ops false) σ Q:=
 fun _ _ ⟨_,I⟩=>Jfs hT h hn I fun γ' a' w' I'=>hQ a' w' ⟨γ',I'⟩
theorem Jlv (hT:TOk P T) (hm:P.follows .mixedOrders=true) {id:Nat} {ops:Array Oper} (hs:List (Nat×Hint)) (live:List Loc) (σ':SS) (needs:List Prop)
  (h:JmL P T N ops.toList hs live σ=some (σ',needs)) (hn:Wn needs) (hQ:QT B N w0 σ' Q .normal):Tr P B N w0 (.region id ops true) σ Q:=
 fun _ _ ⟨_,I⟩=>Jg1 hT hm h hn I fun γ' a' w' I'=>hQ a' w' ⟨γ',I'⟩
theorem Jb (hT:TOk P T) {id:Nat} {ops:Array Oper} (hs:List (Nat×Hint)) (σ':SS) {needs:List Prop} (hn:Wn needs) (hQ:QT B N w0 σ' Q .normal)
  (h:JmO P T N ops.toList hs (σ'.map (·.1)) σ=some (σ',needs):=by kernel_rfl):Tr P B N w0 (.region id ops false) σ Q:=Jmf hT hs _ σ' needs h hn hQ
theorem Wy (hT:TOk P T) (hm:P.follows .mixedOrders=true) {id:Nat} {ops:Array Oper} (hs:List (Nat×Hint)) (σ':SS) {needs:List Prop} (hn:Wn needs) (hQ:QT B N w0 σ' Q .normal)
  (h:JmL P T N ops.toList hs (σ'.map (·.1)) σ=some (σ',needs):=by kernel_rfl):Tr P B N w0 (.region id ops true) σ Q:=Jlv hT hm hs _ σ' needs h hn hQ
theorem Jr:Wn []:=trivial
theorem Jk (h:QT B N w0 σ Q .normal):Tr P B N w0 .skip σ Q:=fun a w ha=>wp_skip (h a w ha)
theorem Jj (h:QT B N w0 σ Q .ret):Tr P B N w0 .ret σ Q:=fun a w ha=>wp_ret (h a w ha)
theorem VY {id:Nat} (h:QT B N w0 σ Q (.exit id)):Tr P B N w0 (.exit id) σ Q:=fun a w ha=>wp_exit (h a w ha)
theorem Jp {id:Nat} (h:Tr P B N w0 x σ (InB id Q)):Tr P B N w0 (.block id x) σ Q:=fun a w ha=>wp_block (h a w ha)
theorem JhF {c:Operand} (b:Bool) (hc:Jg (look σ) c=some (Wg b)) (h:Tr P B N w0 (if b then x else y) σ Q):Tr P B N w0 (.cond c x y) σ Q:=
 fun a w ha=>by
  obtain⟨γ,I⟩:=ha
  exact wp_cond (t:=b) (I.eval hc).1 (h a w ⟨γ,I⟩)
theorem Jd {c:Operand} (b:Bool) (hc:Jg (look σ) c=some (Wg b)) (hb:b=true) (h:Tr P B N w0 x σ Q):Tr P B N w0 (.cond c x y) σ Q:=
 JhF b hc (by rw[if_pos hb];exact h)
theorem Jf {c:Operand} (b:Bool) (hc:Jg (look σ) c=some (Wg b)) (hb:b=false) (h:Tr P B N w0 y σ Q):Tr P B N w0 (.cond c x y) σ Q:=
 JhF b hc (by rw[if_neg (by rw[hb];exact Bool.false_ne_true)];exact h)
theorem Jig (n:Nat) (h:TrR P B N w0 n x σ Q):Tr P B N w0 (.loop x) σ Q:=fun a w ha=>wp_loop_rounds n (h a w ha)
theorem Jgj {n:Nat} (h:Tr P B N w0 x σ (KR P n x Q)):TrR P B N w0 (n+1) x σ Q:=fun a w ha=>h a w ha
theorem q_k (h:Tr P B N w0 y σ Q):QT B N w0 σ (K P y Q) .normal:=h
theorem Jcq {n:Nat} (h:TrR P B N w0 n y σ Q):QT B N w0 σ (KR P n y Q) .normal:=h
theorem Vr {id:Nat} (h:QT B N w0 σ Q (.exit id)):QT B N w0 σ (K P y Q) (.exit id):=h
theorem Ji (h:QT B N w0 σ Q .ret):QT B N w0 σ (K P y Q) .ret:=h
theorem JY {n id:Nat} (h:QT B N w0 σ Q (.exit id)):QT B N w0 σ (KR P n y Q) (.exit id):=h
theorem Wj {n:Nat} (h:QT B N w0 σ Q .ret):QT B N w0 σ (KR P n y Q) .ret:=h
theorem q_b (id:Nat) (h:QT B N w0 σ Q .normal):QT B N w0 σ (InB id Q) .normal:=h
theorem Jy {id:Nat} (h:QT B N w0 σ Q .ret):QT B N w0 σ (InB id Q) .ret:=h
theorem Vy {id:Nat} (h:QT B N w0 σ Q .normal):QT B N w0 σ (InB id Q) (.exit id):=fun a w ha=>by
 show (if id=id then Q .normal a w else _)
 rw[if_pos rfl]
 exact h a w ha
theorem Jeu {id id':Nat} (hne:id'≠id) (h:QT B N w0 σ Q (.exit id')):QT B N w0 σ (InB id Q) (.exit id'):=fun a w ha=>by
 show (if id'=id then Q .normal a w else _)
 rw[if_neg hne]
 exact h a w ha
theorem At.weaken {σ σ':SS} {a:Act} {w:World} (hr:∀l c,look σ' l=some c→look σ l=some c) (h:At B N w0 σ a w):At B N w0 σ' a w:=
 let ⟨γ,I⟩:=h
 ⟨γ,I.weaken hr⟩
theorem At.restr {σ σ':SS} {live:List Loc} (h:restr σ live=some σ') {a:Act} {w:World} (ha:At B N w0 σ a w):At B N w0 σ' a w:=ha.weaken (YD h)
theorem Jac {n:Nat} (σ':SS) (hx:TrR P B N w0 n x σ' Q) (h:restr σ (σ'.map (·.1))=some σ':=by kernel_rfl):TrR P B N w0 n x σ Q:=fun a w ha=>hx a w (ha.restr h)
theorem WJ {e:Exit} (σ':SS) (hx:QT B N w0 σ' Q e) (h:restr σ (σ'.map (·.1))=some σ':=by kernel_rfl):QT B N w0 σ Q e:=fun a w ha=>hx a w (ha.restr h)
theorem At.fit {σ σ':SS} (m:List (Nat×Leaf)) (ents:List (Nat×Ent)) (hm:(m.all fun p=>Nat.blt p.1 9000&&JeH p.2)=true) (hs:Gw.restr σ (Jas σ')=some (Xx m σ')) (hok:XY m σ'=true)
  (hen:YL σ'=ents) (he:FitL (Jh (look σ)) m ents) (hd:Qn (Jh (look σ)) m ents=true) {a:Act} {w:World} (ha:At B N w0 σ a w):At B N w0 σ' a w:=
 let ⟨γ,I⟩:=ha
 ⟨Qj m γ,I.fit hm hs hok hen he hd⟩
theorem Vx {e:Exit} (m:List (Nat×Leaf)) (σ':SS) (he:FitL (Jh (look σ)) m (YL σ')) (hx:QT B N w0 σ' Q e) (hm:(m.all fun p=>Nat.blt p.1 9000&&JeH p.2)=true:=by kernel_rfl)
  (hs:Gw.restr σ (Jas σ')=some (Xx m σ'):=by kernel_rfl) (hok:XY m σ'=true:=by kernel_rfl) (hd:Qn (Jh (look σ)) m (YL σ')=true:=by kernel_rfl):QT B N w0 σ Q e:=fun a w ha=>hx a w (ha.fit m _ hm hs hok rfl he hd)
theorem XE (m:List (Nat×Leaf)) (σ':SS) (he:FitL (Jh (look σ)) m (YL σ')) (hx:Tr P B N w0 x σ' Q) (hm:(m.all fun p=>Nat.blt p.1 9000&&JeH p.2)=true:=by kernel_rfl)
  (hs:Gw.restr σ (Jas σ')=some (Xx m σ'):=by kernel_rfl) (hok:XY m σ'=true:=by kernel_rfl) (hd:Qn (Jh (look σ)) m (YL σ')=true:=by kernel_rfl):Tr P B N w0 x σ Q:=fun a w ha=>hx a w (ha.fit m _ hm hs hok rfl he hd)
theorem YK {n:Nat} (m:List (Nat×Leaf)) (σ':SS) (he:FitL (Jh (look σ)) m (YL σ')) (hx:TrR P B N w0 n x σ' Q) (hm:(m.all fun p=>Nat.blt p.1 9000&&JeH p.2)=true:=by kernel_rfl)
  (hs:Gw.restr σ (Jas σ')=some (Xx m σ'):=by kernel_rfl) (hok:XY m σ'=true:=by kernel_rfl) (hd:Qn (Jh (look σ)) m (YL σ')=true:=by kernel_rfl):TrR P B N w0 n x σ Q:=fun a w ha=>hx a w (ha.fit m _ hm hs hok rfl he hd)
def JnG:SV→Option V1
 | .v x=>some x
 |_=>none
def Jf8 (T:TypeId→Option TD) (σ:Stt):ResultVar→Option SV
 | .tmp t=>Jaj σ t
 | .cell p ty=>match Jaj σ p with
  | some (.v (.one (.ptr κ off)))=>match Jh σ κ,T ty with
   | some (.blk _ ls),some (.arr n _ _)|some (.blk _ ls),some (.struct n _ _)=>
    match JcG ls off with
    |some r=>match YU r n with
     |some (m,_)=>some (.v (.agg m))
     |none=>none
    |none=>none
   |some (.blk _ _),some (.arrG ..)=>none
   |some (.blk _ ls),some _=>match Xy ls off with
    |some (.arr ..)=>none
    |some x=>some (.v (.one x))
    |none=>none
   |_,_=>none
  |_=>none
def Jbn (T:TypeId→Option TD) (σ:Stt):List ResultVar→Option (List V1)
 |[]=>some []
 |r::l=>match Jf8 T σ r,Jbn T σ l with
  |some (.v x),some xs=>some (x::xs)
  |_,_=>none
def Jc5 (T:TypeId→Option TD) (σ:Stt):List ResultVar→Option SV
 |[r]=>Jf8 T σ r
 |l=>(Jbn T σ l).map .tup
variable {γ:Nat→Value} {a:Act} {w:World} {τ:Stt}
def Jcp (tmps:Array Value):ResultVar→Sem Value
 | .tmp t=>pure (tmps.getD t undef)
 | .cell a t=>do loadVar t (←asAddr (tmps.getD a undef))
theorem JcM (hT:TOk P T) (I:Inv B N w0 γ τ a w) {r:ResultVar} {v:SV} (h:Jf8 T τ r=some v):(Jcp a.tmps r).run P w= .ok (v.den γ) w∧v.ok:=by
 cases r with
 |tmp t=>
  have:=I.look_slot (t:=t) h
  simp only[Act.eval] at this
  simpa[Jcp] using this
 | cell p ty=>
  simp only[Jf8] at h
  split at h
  ·rename_i κ off hu
   have hs:=I.look_slot hu
   have e:a.tmps.getD p undef=(SV.v (.one (.ptr κ off))).den γ:=hs.1
   have fin:∀v:SV,(Instr.loadAt ty ((SV.v (.one (.ptr κ off))).den γ)).run P w= .ok (v.den γ) w→(Jcp a.tmps (.cell p ty)).run P w= .ok (v.den γ) w:=fun v hv=>by
    simp only[Jcp,e]
    simpa[SV.den,V1.den,Leaf.cells,Instr.loadAt,Instr.sureAddr,asAddr] using hv
   have agg:∀(t0:TypeId) (ls:List Leaf) (d:TD),T ty=some d→d.isA=true→BlkAt γ w κ t0 ls→
     (match JcG ls off with|some r=>(match YU r d.sz with|some (m,_)=>some (SV.v (.agg m))|none=>none)|none=>none)=some v→(Jcp a.tmps (.cell p ty)).run P w= .ok (v.den γ) w∧v.ok:=by
    intro t0 ls d hd hA hb h
    split at h
    ·rename_i r h1
     split at h
     ·rename_i m z h2
      simp only[Option.some.injEq] at h
      subst h
      obtain⟨h3,h4⟩:=Jbp (hT ty _ hd) hA rfl hb h1 h2
      exact⟨fin _ h3,h4⟩
     ·cases h
    ·cases h
   split at h
   ·rename_i t0 ls n e' k hk hd;exact agg t0 ls _ hd rfl (.of (I.key hk).2) h
   ·rename_i t0 ls n e' k hk hd;exact agg t0 ls _ hd rfl (.of (I.key hk).2) h
   ·cases h
   ·rename_i t0 ls d _ _ _ hk hd
    have hA:d.isA=false:=by cases d<;>first|rfl|(exfalso;simp_all;done)|(exfalso;simp_all;exact ‹∀(n:Nat) (e:TypeId) (sz:Nat) (z:List Leaf),_=n→_=e→_=sz→¬_=z› _ _ _ _ rfl rfl rfl rfl)
    split at h
    ·cases h
    ·rename_i x hx h1
     simp only[Option.some.injEq] at h
     subst h
     obtain⟨h3,h4⟩:=Jbe (hT ty d hd) hA (.of (I.key hk).2) h1 (by cases x<;>first|trivial|exact(hx _ _ _ rfl).elim)
     exact⟨fin _ h3,h4⟩
    ·cases h
   ·cases h
  ·cases h
theorem JcW (hT:TOk P T) (I:Inv B N w0 γ τ a w):∀{l:List ResultVar} {xs:List V1},Jbn T τ l=some xs→(l.mapM (Jcp a.tmps)).run P w= .ok (xs.map (V1.den γ)) w∧∀x∈xs,x.ok
 |[],xs,h=>by simp only[Jbn,Option.some.injEq] at h;subst h;simp
 | r::l,xs,h=>by
  simp only[Jbn] at h
  split at h
  ·rename_i x xs' h1 h2
   simp only[Option.some.injEq] at h
   subst h
   obtain⟨e1,e2⟩:=JcM hT I h1
   obtain⟨e3,e4⟩:=JcW hT I h2
   refine⟨?_,fun y hy=> ?_⟩
   ·simp only[List.mapM_cons,Sem.run_bind,e1,e3,Result.andThen_ok,Sem.run_pure,List.map_cons]
    rfl
   ·rcases List.mem_cons.1 hy with rfl|hy
    ·exact e2
    ·exact e4 y hy
  ·cases h
theorem JfF (hT:TOk P T) (I:Inv B N w0 γ τ a w) {fn:Func} {v:SV} (h:Jc5 T τ fn.results.toList=some v):(results fn a.tmps).run P w= .ok (v.den γ) w∧v.ok:=by
 have e:results fn a.tmps=(do let vs ←fn.results.mapM (Jcp a.tmps);pure (if h:vs.size=1 then vs[0] else .tuple vs)):=by
  unfold results
  congr 1
 rw[e,Array.mapM_eq_mapM_toList]
 unfold Jc5 at h
 split at h
 ·rename_i r hr
  obtain⟨e1,e2⟩:=JcM hT I h
  refine⟨?_,e2⟩
  rw[hr]
  simp[e1]
 ·rename_i hne
  simp only[Option.map_eq_some_iff] at h
  obtain⟨xs,h1,rfl⟩:=h
  obtain⟨e1,e2⟩:=JcW hT I h1
  refine⟨?_,e2⟩
  have hlen:xs.length≠1:=by
   intro hx
   have:∀{l:List ResultVar} {xs:List V1},Jbn T τ l=some xs→xs.length=l.length:=by
    intro l
    induction l with
    |nil=>intro xs h;simp only[Jbn,Option.some.injEq] at h;subst h;rfl
    | cons r l ih=>
     intro xs h
     simp only[Jbn] at h
     split at h
     ·rename_i x xs' h1 h2
      simp only[Option.some.injEq] at h
      subst h
      simp[ih h2]
     ·cases h
   have h3:=this h1
   rw[hx] at h3
   match hq:fn.results.toList,h3 with
   |[r],_=>exact hne r hq
  simp[e1,hlen,SV.den]
def XF (P:Program) (fn:Func) (R:Value→World→Prop):Qt:=bodyPost P fn fun e w'=>∃v,e= .returned v∧R v w'
theorem Jml (hT:TOk P T) {fn:Func} {R:Value→World→Prop} (v:SV) (h:Jc5 T (look σ) fn.results.toList=some v)
  (hR:∀γ a w,Inv B N w0 γ (look σ) a w→v.ok→R (v.den γ) w):QT B N w0 σ (XF P fn R) .ret:=by
 rintro a w ⟨γ,I⟩
 obtain⟨h1,h2⟩:=JfF hT I h
 exact⟨I.defers,_,h1,_,rfl,hR γ a w I h2⟩
theorem Jm3 (hT:TOk P T) {fn:Func} {R:Value→World→Prop} (v:SV) (h:Jc5 T (look σ) fn.results.toList=some v)
  (hR:∀γ a w,Inv B N w0 γ (look σ) a w→v.ok→R (v.den γ) w):QT B N w0 σ (XF P fn R) .normal:=by
 rintro a w ⟨γ,I⟩
 obtain⟨h1,h2⟩:=JfF hT I h
 exact⟨I.defers,_,h1,_,rfl,hR γ a w I h2⟩
def Ge (w:World) (b:Nat):Prop:=w.heap.size≤b
def R0 (res:SV) (w:World):Value→World→Prop:=fun v w'=>(∀γ,v=res.den γ)∧res.ok∧BelowX (Ge w) w w'
def R1 (res:SV) (news:List (Nat×Ent)) (B:Nat→Prop) (w0:W0):Value→World→Prop:=fun v w'=>
 ∃γ',v=res.den γ'∧res.ok∧BelowX B w0.w w'∧(∀p∈news,p.2.at B γ' w' p.1∧∀b,p.2.foot γ' w' p.1 b→B b)∧YQ γ' w' news∧(∀κ,(γ' κ).oneCell'=true)∧∀κ v,w0.F κ=some v→γ' κ=v
theorem Vf {f:Nat} {fn:Func} {c:Code} (hf:P.funcs[f]? =some fn) (hnm:(fn.name== "runtime.NumGoroutine")=false) (hb:fn.body=some c) (args:Array Value) (w:World):
  (callFunc f args).run P w= .ok (.enter f args) w:=by
 have h1:fn.name≠ "runtime.NumGoroutine":=by simpa using hnm
 simp[callFunc,hf,h1,hb]
def Jey:List SV→Nat→SS
 |[],_=>[]
 |x::r,i=>(.s i,.v x)::Jey r (i+1)
theorem Ja9:∀(l:List SV) (i:Nat) (loc:Loc) (c:Cont),look (Jey l i) loc=some c→∃j x,l[j]? =some x∧loc= .s (i+j)∧c= .v x
 |[],i,loc,c,h=>by simp[Jey,look] at h
 | x::r,i,loc,c,h=>by
  simp only[Jey,look] at h
  cases hb:Loc.beq (.s i) loc with
  |true=>
   simp only[hb,cond_true,Option.some.injEq] at h
   exact⟨0,x,rfl,(Loc.beq_iff.1 hb).symm,h.symm⟩
  |false=>
   simp only[hb,cond_false] at h
   obtain⟨j,y,h1,h2,h3⟩:=Ja9 r (i+1) loc c h
   exact⟨j+1,y,by simpa using h1,by rw[h2];congr 1;omega,h3⟩
def preSS:List (Nat×Ent)→SS
 |[]=>[]
 |(κ,e)::r=>(.h κ,.e e)::preSS r
theorem JaU:∀{l:List (Nat×Ent)} {loc:Loc} {c:Cont},look (preSS l) loc=some c→∃κ e,(κ,e)∈l∧loc= .h κ∧c= .e e
 |[],loc,c,h=>by simp[preSS,look] at h
 | (κ,e)::r,loc,c,h=>by
  simp only[preSS,look] at h
  cases hb:Loc.beq (.h κ) loc with
  |true=>
   simp only[hb,cond_true,Option.some.injEq] at h
   exact⟨κ,e,by simp,(Loc.beq_iff.1 hb).symm,h.symm⟩
  |false=>
   simp only[hb,cond_false] at h
   obtain⟨κ',e',h1,h2⟩:=JaU h
   exact⟨κ',e',by simp[h1],h2⟩
theorem JfX {σ τ:SS} {l:Loc} {c:Cont} (h:look (σ++τ) l=some c):look σ l=some c∨look τ l=some c:=by
 induction σ with
 |nil=>exact .inr h
 |cons p r ih=>
  obtain⟨l',c'⟩:=p
  simp only[List.cons_append,look] at h ⊢
  cases hb:l'.beq l with
  |true=>simp only[hb,cond_true] at h ⊢;exact .inl h
  |false=>simp only[hb,cond_false] at h ⊢;exact ih h
theorem Jf5 {l:List SV} {pre:List (Nat×Ent)} (γ:Nat→Value) (w:World) (F:Nat→Option Value) (hok:∀x∈l,x.ok) (h1:∀κ,(γ κ).oneCell'=true) {n:Nat} (hn:l.length≤n) (hB:∀b,w.heap.size≤b→B b)
  (hp:∀p∈pre,p.2.at B γ w p.1) (hap:YQ γ w pre) (hF:∀κ v,F κ=some v→γ κ=v∧9000≤κ):
  Inv B n ⟨w,F⟩ γ (look (Jey l 0++preSS pre)) {tmps:=(l.map (SV.den γ)).toArray++Array.replicate (n-l.length) undef,defers:=[]} w:=by
 have ent:∀κ e,look (Jey l 0++preSS pre) (.h κ)=some (.e e)→(κ,e)∈pre:=fun κ e he=>by
  rcases JfX he with he|he
  ·obtain⟨j,y,h1,h2,h3⟩:=Ja9 l 0 _ _ he
   cases h3
  ·obtain⟨κ',e',q1,q2,q3⟩:=JaU he
   cases q2;cases q3
   exact q1
 refine⟨by simp;omega,rfl,fun t x hx=> ?_,fun κ e he=>hp _ (ent κ e he),fun κ e κ' e' he he' hne hm=>hap _ (ent κ e he) _ (ent κ' e' he') hne hm,BelowX.refl _ _,hB,h1,hF⟩
 rcases JfX hx with hx|hx
 ·obtain⟨j,y,h1,h2,h3⟩:=Ja9 l 0 _ _ hx
  simp only[Nat.zero_add,Loc.s.injEq] at h2
  cases h3
  subst h2
  have hj:t<l.length:=(List.getElem?_eq_some_iff.1 h1).1
  refine⟨?_,hok _ (List.mem_of_getElem? h1)⟩
  have e:l[t]=x:=by rw[List.getElem?_eq_getElem hj] at h1;simpa using h1
  simp[Array.getElem?_append,hj,e]
 ·obtain⟨κ',e',q1,q2,q3⟩:=JaU hx
  cases q2
theorem Jmp {f:Nat} {fn:Func} {c:Code} {args:List SV} {res:SV} (hf:P.funcs[f]? =some fn) (hnm:(fn.name== "runtime.NumGoroutine")=false) (hb:fn.body=some c) (hN:fn.ntmps=N) (hlen:Nat.ble args.length N=true)
  (pre:List (Nat×Ent))
  (h:(∀x∈args,x.ok)→∀w,Tr P (Ge w) N ⟨w,fun _=>none⟩ c (Jey args 0) (XF P fn (R0 res w))):CallOk P f args pre res []:=by
 intro B γ w _ _ hok _ h1
 have hle:=Nat.le_of_ble_eq_true hlen
 unfold RunOk
 rw[Vf hf hnm hb]
 have I:=Jf5 (B:=Ge w) (pre:=[]) γ w (fun _=>none) hok h1 hle (fun b hb=>hb) (by simp) (fun p hp=>by cases hp) (fun κ v hv=>by cases hv)
 simp only[preSS,List.append_nil] at I
 have:=calls_of_wp (args:=(args.map (SV.den γ)).toArray) hf hb (R:=fun e w'=>∃v,e= .returned v∧R0 res w v w') (by
  have:=h hok w _ _ ⟨γ,I⟩
  unfold XF at this
  simpa[hN] using this)
 refine this.mono ?_
 rintro e w' ⟨v,rfl,h2,h3,h4⟩
 exact⟨v,rfl,γ,fun _ _=>rfl,h1,h2 γ,h3,h4.mono fun b _ h=> .inl h,by simp,fun p hp=>by cases hp⟩
def JlV (pre news:List (Nat×Ent)) (res:SV):Bool:=
 (pre.all fun p=>Nat.ble 9000 p.1&&(match p.2 with| .blk ..| .own ..| .ownb ..| .ownf ..| .owni ..| .arena true _ _=>Jb2 news p.1| .orows ..| .prows ..| .frows ..| .lit ..| .err ..=>false|_=>true))&&(news.all fun p=>match p.2 with| .prows ..=>false| .dead| .apt ..| .err ..=>true|e=>e.mut)&&(res.keys.all fun κ=>Jb2 news κ||Jb2 pre κ)&&news.all fun p=>p.2.keysL.all fun κ=>Jb2 news κ||Jb2 pre κ
theorem Wr {f:Nat} {fn:Func} {c:Code} {args:List SV} {res:SV} {news:List (Nat×Ent)} (hf:P.funcs[f]? =some fn) (hnm:(fn.name== "runtime.NumGoroutine")=false) (hb:fn.body=some c) (hN:fn.ntmps=N) (hlen:Nat.ble args.length N=true)
  (pre:List (Nat×Ent)) (hpre:JlV pre news res=true)
  (h:(∀x∈args,x.ok)→∀B w0,Tr P B N w0 c (Jey args 0++preSS pre) (XF P fn (R1 res news B w0))):CallOk P f args pre res news:=by
 classical
 intro B γ w hp hap hok _ h1
 have hle:=Nat.le_of_ble_eq_true hlen
 simp only[JlV,Bool.and_eq_true] at hpre
 obtain⟨⟨⟨hpre,hnews⟩,hrk⟩,hnk⟩:=hpre
 have hpk:∀p∈pre,9000≤p.1∧p.2.at (Touch γ w pre news) γ w p.1:=fun p hpp=>by
  have:=List.all_eq_true.1 hpre p hpp
  simp only[Bool.and_eq_true] at this
  refine⟨Nat.le_of_ble_eq_true this.1,?_⟩
  have h2:=this.2
  have ha:=hp p hpp
  obtain⟨κ,e⟩:=p
  have tch:e.mut=true→Jb2 news κ=true→∀b,e.reg γ w κ b→Touch γ w pre news b:=fun hm hk b hb=>by
   obtain⟨q,hq,hqe⟩:=XH.1 hk
   exact .inr ⟨(κ,e),hpp,hm,⟨q,hq,hqe⟩,hb⟩
  cases e with
  |blk ty l=>
   obtain⟨b,q1,q2,q3⟩:=ha
   exact⟨b,q1,tch rfl h2 b (by simp only at q1;simp[Ent.reg,q1,Jw]),q3⟩
  |own e k l=>exact⟨ha.1,fun b hb=>tch rfl h2 b hb⟩
  |ownb e l=>exact⟨ha.1,fun b hb=>tch rfl h2 b hb⟩
  |ownf e k l=>exact⟨ha.1,fun b hb=>tch rfl h2 b hb⟩
  |owni e sz l=>exact⟨ha.1,fun b hb=>tch rfl h2 b hb⟩
  |arena rw' bs D=>cases rw' with
   |true=>exact⟨ha.1,fun _ b hb=>tch rfl h2 b hb,ha.2.2⟩
   |false=>exact⟨ha.1,(fun h=>by cases h),ha.2.2⟩
  |orows e r=>cases h2
  |prows e r=>cases h2
  |frows e eb f r=>cases h2
  |lit e n l=>cases h2
  |err tp ts te n=>cases h2
  |_=>exact ha
 unfold RunOk
 rw[Vf hf hnm hb]
 let F:Nat→Option Value:=fun κ=>if(∃p∈pre,p.1=κ) then some (γ κ) else none
 have hF:∀κ v,F κ=some v→γ κ=v∧9000≤κ:=fun κ v hv=>by
  by_cases hk:∃p∈pre,p.1=κ
  ·simp only[F,if_pos hk,Option.some.injEq] at hv
   obtain⟨p,hpp,rfl⟩:=hk
   exact⟨hv,(hpk p hpp).1⟩
  ·simp only[F,if_neg hk] at hv
   cases hv
 have I:=Jf5 (B:=Touch γ w pre news) (pre:=pre) γ w F hok h1 hle (fun b hb=> .inl hb) (fun p hpp=>(hpk p hpp).2) hap hF
 have:=calls_of_wp (args:=(args.map (SV.den γ)).toArray) hf hb (R:=fun e w'=>∃v,e= .returned v∧R1 res news (Touch γ w pre news) ⟨w,F⟩ v w') (by
  have:=h hok (Touch γ w pre news) ⟨w,F⟩ _ _ ⟨γ,I⟩
  unfold XF at this
  simpa[hN] using this)
 refine this.mono ?_
 rintro e w' ⟨v,rfl,γ',h2,h3,h4,h5,h6,h7,h8⟩
 let γ1:Nat→Value:=fun κ=>if(∃p∈news,p.1=κ) then γ' κ else γ κ
 have g1:∀κ,(Jb2 news κ||Jb2 pre κ)=true→γ1 κ=γ' κ:=fun κ hk=>by
  by_cases hn:∃p∈news,p.1=κ
  ·exact if_pos hn
  ·simp only[Bool.or_eq_true] at hk
   rcases hk with hk|hk
   ·exact absurd (XH.1 hk) hn
   ·have:F κ=some (γ κ):=if_pos (XH.1 hk)
    rw[h8 κ _ this]
    exact if_neg hn
 have gn:∀p∈news,γ1 p.1=γ' p.1∧∀κ∈p.2.keys,γ1 κ=γ' κ:=fun p hpn=>by
  refine⟨if_pos ⟨p,hpn,rfl⟩,fun κ hκ=>g1 κ ?_⟩
  exact List.all_eq_true.1 (List.all_eq_true.1 hnk p hpn) κ (by rw[JkE];exact hκ)
 refine⟨v,rfl,γ1,fun κ hκ=> ?_,fun κ=> ?_,?_,h3,h4,fun p hpn=> ?_,fun p hpn q hqn hne hm b hb hf=> ?_⟩
 ·by_cases hn:∃p∈news,p.1=κ
  ·obtain⟨p,hpn,hpe⟩:=hn
   obtain⟨q,hq,hqe⟩:=hκ p hpn hpe
   have:F κ=some (γ κ):=if_pos ⟨q,hq,hqe⟩
   rw[←h8 κ _ this]
   exact if_pos ⟨p,hpn,hpe⟩
  ·exact if_neg hn
 ·show (if(∃p∈news,p.1=κ) then γ' κ else γ κ).oneCell'=true
  split
  ·exact h7 κ
  ·exact h1 κ
 ·rw[h2]
  exact(SV.den_congr fun κ hκ=>g1 κ (List.all_eq_true.1 hrk κ hκ)).symm
 ·obtain⟨k1,k2⟩:=h5 p hpn
  exact⟨Ent.at_congr (gn p hpn).1 (gn p hpn).2 k1,fun b hb=>k2 b ((Ent.foot_congr (gn p hpn).1 b).1 hb)⟩
 ·exact h6 p hpn q hqn hne hm b ((Ent.reg_congr (gn p hpn).1 b).1 hb) ((Ent.foot_congr (gn q hqn).1 b).1 hf)
theorem Inv.r1 {γ:Nat→Value} {a:Act} {w:World} {v:SV} {news:List (Nat×Ent)} (I:Inv B N w0 γ (look σ) a w) (hv:v.ok) (hn:∀p∈news,look σ (.h p.1)=some (.e p.2)) (hnews:(news.all fun p=>match p.2 with| .prows ..=>false| .dead| .apt ..| .err ..=>true|e=>e.mut)=true):R1 v news B w0 (v.den γ) w:=by
 refine⟨γ,rfl,hv,I.below,fun p hp=>⟨I.ent _ _ (hn p hp),fun b hb=> ?_⟩,fun p hp q hq hne hm b hb=>I.apart _ _ _ _ (hn p hp) (hn q hq) hne hm b hb,I.cell1,fun κ v hv=>(I.fixed κ v hv).1⟩
 have ha:=I.ent _ _ (hn p hp)
 have:=List.all_eq_true.1 hnews p hp
 obtain⟨κ,e⟩:=p
 cases e with
 |blk ty l=>exact Ent.mut_in rfl rfl ha hb
 |own e k l=>exact Ent.mut_in rfl rfl ha hb
 |ownb e l=>exact Ent.mut_in rfl rfl ha hb
 |ownf e k l=>exact Ent.mut_in rfl rfl ha hb
 |owni e sz l=>exact Ent.mut_in rfl rfl ha hb
 |lit e n l=>exact Ent.mut_in rfl rfl ha hb
 |arena rw' bs D=>cases rw' with
  |true=>exact ha.2.1 rfl b hb
  |false=>cases this
 |apt κa v=>exact hb.elim
 |orows e r=>
  rcases hb with hb|hb
  ·exact ha.2.2.1 b hb
  ·exact(ha.2.2.2 b hb).1
 | frows e eb f r=>
  obtain⟨xs,x1,x2,x3,x4,x5,x6⟩:=ha
  rcases hb with hb|⟨ys,j,u,q1,q2,q3,q4⟩
  ·exact x3 b hb
  ·obtain rfl:=Jdq x1 q1
   exact(x5 j u b q2 q3 q4).1
 |dead=>exact hb.elim
 |err tp ts te n=>exact(ErrAt.lt ha hb).2
 |_=>cases this
def hasAll (σ:SS) (news:List (Nat×Ent)):Option SS:=restr σ (news.map fun p=> .h p.1)
theorem Jb1 {news:List (Nat×Ent)}:∀{σ:SS},hasAll σ news=some (preSS news)→∀p∈news,look σ (.h p.1)=some (.e p.2):=by
 induction news with
 |nil=>intro σ _ p hp;cases hp
 | cons q r ih=>
  intro σ h p hp
  simp only[hasAll,List.map_cons,restr] at h
  split at h
  ·rename_i c σ1 h1 h2
   simp only[Option.some.injEq,preSS,List.cons.injEq,Prod.mk.injEq,true_and] at h
   obtain⟨rfl,rfl⟩:=h
   rcases List.mem_cons.1 hp with rfl|hp
   ·exact h1
   ·exact ih h2 p hp
  ·cases h
theorem Jgb (hT:TOk P T) {fn:Func} (v:SV) (news:List (Nat×Ent)) (h:Jc5 T (look σ) fn.results.toList=some v) (hn:hasAll σ news=some (preSS news)) (hnews:(news.all fun p=>match p.2 with| .prows ..=>false| .dead| .apt ..| .err ..=>true|e=>e.mut)=true):
  QT B N w0 σ (XF P fn (R1 v news B w0)) .normal:=Jm3 hT v h fun _ _ _ I hv=>I.r1 hv (Jb1 hn) hnews
theorem Jl (hT:TOk P T) {fn:Func} (v:SV) (news:List (Nat×Ent)) (h:Jc5 T (look σ) fn.results.toList=some v) (hn:hasAll σ news=some (preSS news)) (hnews:(news.all fun p=>match p.2 with| .prows ..=>false| .dead| .apt ..| .err ..=>true|e=>e.mut)=true):
  QT B N w0 σ (XF P fn (R1 v news B w0)) .ret:=Jml hT v h fun _ _ _ I hv=>I.r1 hv (Jb1 hn) hnews
theorem JhL {w1:World} {F:Nat→Option Value} (hT:TOk P T) {fn:Func} (v:SV) (hk:v.keys=[]) (h:Jc5 T (look σ) fn.results.toList=some v):QT (Ge w1) N ⟨w1,F⟩ σ (XF P fn (R0 v w1)) .ret:=
 Jml hT v h fun γ _ _ I hv=>⟨fun γ'=>SV.den_congr (by rw[hk];simp),hv,I.below⟩
theorem VW {α β:Type} {id:Nat} (st:α→SS) (out:β→SS) (f:Nat→α→Option β) (r:β) (h0:∀s,f 0 s=none) (n:Nat) (s0:α) (h:f n s0=some r)
  (hx:QT B N w0 (out r) Q (.exit id))
  (step:∀k,(∀s',f k s'=some r→TrR P B N w0 k x (st s') Q)→QT B N w0 (out r) Q (.exit id)→∀s,f (k+1) s=some r→Tr P B N w0 x (st s) (KR P k x Q)):
  Tr P B N w0 (.loop x) (st s0) Q:=by
 refine Jig n ?_
 have:∀k s,f k s=some r→TrR P B N w0 k x (st s) Q:=by
  intro k
  induction k with
  |zero=>intro s h;rw[h0] at h;cases h
  |succ k ih=>intro s h;exact Jgj (step k ih hx s h)
 exact this n s0 h
theorem VH {α β ρ:Type} {id:Nat} (st:α→SS) (out:β→SS) (okRet:ρ→SS→Prop) (f:Nat→α→Option (Sum β ρ)) (r:Sum β ρ) (h0:∀s,f 0 s=none) (n:Nat) (s0:α) (h:f n s0=some r)
  (hx:∀y,r= .inl y→QT B N w0 (out y) Q (.exit id)) (hr:∀v σ,r= .inr v→okRet v σ→QT B N w0 σ Q .ret)
  (step:∀k,(∀s',f k s'=some r→TrR P B N w0 k x (st s') Q)→(∀y,r= .inl y→QT B N w0 (out y) Q (.exit id))→(∀v σ,r= .inr v→okRet v σ→QT B N w0 σ Q .ret)→
   ∀s,f (k+1) s=some r→Tr P B N w0 x (st s) (KR P k x Q)):
  Tr P B N w0 (.loop x) (st s0) Q:=by
 refine Jig n ?_
 have:∀k s,f k s=some r→TrR P B N w0 k x (st s) Q:=by
  intro k
  induction k with
  |zero=>intro s h;rw[h0] at h;cases h
  |succ k ih=>intro s h;exact Jgj (step k ih hx hr s h)
 exact this n s0 h
theorem WW {σ1:SS} (hk:QT B N w0 σ1 Q .normal) (h:QT B N w0 σ1 Q .normal→Tr P B N w0 x σ Q):Tr P B N w0 x σ Q:=h hk
abbrev sI (t:Nat) (k:IntKind) (n:Int):Loc×Cont:=(.s t,.v (.v (.one (.int k n))))
abbrev sB (t:Nat) (b:Bool):Loc×Cont:=(.s t,.v (.v (.one (.bool b))))
abbrev sO (t:Nat) (x:Leaf):Loc×Cont:=(.s t,.v (.v (.one x)))
abbrev sG (t:Nat) (l:List Leaf):Loc×Cont:=(.s t,.v (.v (.agg l)))
abbrev sT (t:Nat) (l:List V1):Loc×Cont:=(.s t,.v (.tup l))
abbrev hB (κ:Nat) (ty:TypeId) (l:List Leaf):Loc×Cont:=(.h κ,.e (.blk ty l))
abbrev hR (κ:Nat) (k:IntKind) (l:List Int):Loc×Cont:=(.h κ,.e (.rd k l))
abbrev hO (κ:Nat) (e:TypeId) (k:IntKind) (l:List Int):Loc×Cont:=(.h κ,.e (.own e k l))
abbrev hF (κ:Nat) (ty:TypeId) (l:List Leaf):Loc×Cont:=(.h κ,.e (.rblk ty l))
abbrev hX (κ:Nat) (k:IntKind) (l:List Int):Loc×Cont:=(.h κ,.e (.rdx k l))
abbrev hW (κ:Nat) (r:RowsK):Loc×Cont:=(.h κ,.e (.rows r))
abbrev hV (κ:Nat) (e:TypeId) (r:RowsK):Loc×Cont:=(.h κ,.e (.orows e r))
abbrev hE (κ:Nat) (e eb:TypeId) (f:Int) (r:RowsK):Loc×Cont:=(.h κ,.e (.frows e eb f r))
abbrev hL (κ:Nat) (e:TypeId) (n:Nat) (l:List Leaf):Loc×Cont:=(.h κ,.e (.lit e n l))
abbrev hD (κ:Nat):Loc×Cont:=(.h κ,.e .dead)
theorem Jo {c:Prop} [Decidable c] {α:Type} {x:Option α} {r:α} (h:(if c then x else none)=some r):c∧x=some r:=by
 split at h
 ·exact⟨‹_›,h⟩
 ·cases h
theorem Jc {c:Bool} {α:Type} {x y:Option α} {r:α} (h:(if c=true then x else y)=some r):(c=true∧x=some r)∨(c=false∧y=some r):=by
 cases c
 ·exact .inr ⟨rfl,by simpa using h⟩
 ·exact .inl ⟨rfl,by simpa using h⟩
theorem bind_some {α β:Type} {x:Option α} {f:α→Option β} {r:β} (h:x.bind f=some r):∃y,x=some y∧f y=some r:=by
 cases x with
 |none=>cases h
 |some y=>exact⟨y,rfl,h⟩
theorem Jz {p:Prop} (h:p):Wn [p]:=h
theorem Je {p q:Prop} {r:List Prop} (h:p) (hr:Wn (q::r)):Wn (p::q::r):=⟨h,hr⟩
def Jni:Leaf→Bool
 | .int ..| .bool _| .nilp| .nils| .nilm| .str _=>true
 | .arr _ n l=>Nat.beq l.length n
 |_=>false
theorem Wm {z:List Leaf} (h:z.all Jni=true):∀x∈z,x.ok∧x.keys=[]:=fun x hx=>by
 have:=List.all_eq_true.1 h x hx
 cases x<;>first
  |exact⟨trivial,rfl⟩
  |exact⟨Nat.eq_of_beq_eq_true this,rfl⟩
  |cases this
def Jg4:List (Nat×TD)→Nat→Option TD
 |[],_=>none
 |(t,d)::r,x=>bif Nat.beq t x then some d else Jg4 r x
theorem Jlc:TOk P (Jg4 []):=fun t d h=>by cases h
theorem JI {t:Nat} {d:TD} {r:List (Nat×TD)} (h:d.ok P t) (hr:TOk P (Jg4 r)):TOk P (Jg4 ((t,d)::r)):=fun x e hx=>by
 simp only[Jg4] at hx
 cases hb:Nat.beq t x with
 |true=>
  simp only[hb,cond_true,Option.some.injEq] at hx
  obtain rfl:=Nat.eq_of_beq_eq_true hb
  subst hx
  exact h
 |false=>simp only[hb,cond_false] at hx;exact hr x e hx
end Go.Gw

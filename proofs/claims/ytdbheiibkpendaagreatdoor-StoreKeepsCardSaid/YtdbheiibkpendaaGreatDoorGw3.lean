/- The walk's engine, part 3: each operation's answer is the symbol's. -/
import Derived.Test.YtdbheiibkpendaaGreatDoorGw2
import Derived.Laws.StructEq
import Derived.Laws.Entries
import Derived.Laws.Slices
namespace Go.Gw
open Go.RowKit
variable {P:Program} {T:TypeId→Option TD} {B:Nat→Prop} {N:Nat} {w0:W0} {γ:Nat→Value} {σ:Stt} {a:Act} {w:World}
theorem Jiw (l l':List Int) (h:l.length=l'.length):((List.range l.length).all fun i=>l.getD i 0==l'.getD i 0)=decide (l=l'):=by
 rw[Bool.eq_iff_iff]
 simp only[List.all_eq_true,List.mem_range,beq_iff_eq,decide_eq_true_eq]
 constructor
 ·intro hh
  apply List.ext_getElem h
  intro i h1 h2
  have:=hh i h1
  simpa[List.getD,h1,h2] using this
 ·intro e i hi
  rw[e]
theorem Jad (d:Nat) (t e:TypeId) (n:Nat) (k:IntKind) (ht:P.underlying t=some (.array n e)) (he:P.underlying e=some (.int k)) (hsz:∀w,(sizeOf e).run P w= .ok 1 w)
  (l l':List Int) (hx:l.length=n) (hy:l'.length=n):
  (Op.equalIn (d+2) t (.agg (l.map (Value.int k)).toArray) (.agg (l'.map (Value.int k)).toArray)).run P w= .ok (decide (l=l')) w:=by
 rw[←Jiw l l' (hx.trans hy.symm),hx,List.range_eq_range',Op.equalIn]
 simp only[Sem.run_bind,run_underlying ht,Result.andThen_ok,hsz,Std.Legacy.Range.forIn_eq_forIn_range',Std.Legacy.Range.size,Nat.sub_zero,Nat.add_sub_cancel,Nat.div_one]
 have hl:∀i∈List.range' 0 n 1,i<n:=fun i hi=>by simpa using (List.mem_range'_1.1 hi).2
 generalize List.range' 0 n 1=r at hl ⊢
 induction r with
 |nil=>simp
 | cons i r ih=>
  have hi:i<n:=hl i (by simp)
  have px:(part e (l.map (Value.int k)).toArray (i*1)).run P w= .ok (.int k (l.getD i 0)) w:=by
   simp[part,isAgg,run_underlying he,List.getD,List.getElem?_eq_getElem (show i<l.length by omega)]
  have py:(part e (l'.map (Value.int k)).toArray (i*1)).run P w= .ok (.int k (l'.getD i 0)) w:=by
   simp[part,isAgg,run_underlying he,List.getD,List.getElem?_eq_getElem (show i<l'.length by omega)]
  have pe:(Op.equalIn (d+1) e (.int k (l.getD i 0)) (.int k (l'.getD i 0))).run P w= .ok (l.getD i 0==l'.getD i 0) w:=run_equalIn_int w d e k k _ _ he
  simp only[List.forIn_cons,Sem.run_bind,px,py,pe,Result.andThen_ok,List.all_cons]
  cases hb:(l.getD i 0==l'.getD i 0)
  ·simp
  ·simp only[Bool.not_true,Bool.false_eq_true,if_false,Sem.run_pure,Bool.true_and]
   exact ih fun j hj=>hl j (by simp[hj])
theorem Vz {t:TypeId} {n:Nat} (h:(P.info? t).map (·.size)=some n) (w:World):(sizeOf t).run P w= .ok n w:=by
 cases hq:P.info? t with
 |none=>simp[hq] at h
 |some i=>simp[hq] at h;simp[sizeOf,typeInfo,hq,h]
theorem VO {t:TypeId} {n:Nat} {v:Value} (h:(P.info? t).map (fun i=>(i.size,i.zero))=some (n,some v)) (w:World):(sizeOf t).run P w= .ok n w∧(zeroValue t).run P w= .ok v w:=by
 cases hq:P.info? t with
 |none=>simp[hq] at h
 |some i=>simp[hq] at h;simp[sizeOf,zeroValue,typeInfo,hq,h]
theorem Yg {s:Sem Next} {hint:Hint} {e:Option Eff} {eff:Eff} (h:JiZ hint e=some eff) (hn:eff.need)
  (H:∀eff',e=some eff'→eff'.need→RunOk P s w (Post B N w0 σ a eff')):RunOk P s w (Post B N w0 σ a eff):=by
 cases hint with
 | dec b=>
  simp only[JiZ] at h
  split at h
  ·rename_i b0 wr p
   simp only[Option.some.injEq] at h
   subst h
   obtain⟨hb,hp⟩:=WY.1 hn
   have hb:b0=b:=hb
   subst hb
   have:=H ⟨some (Wg b0),wr,p⟩ rfl hp
   exact this
  ·cases h
 |_=>exact H _ (by simpa[JiZ] using h) hn
theorem RunOk.pureV {v:Value} {post:Value→World→Prop} (h:post v w):RunOk P (pure (.value v)) w post:=by
 unfold RunOk;simpa using h
theorem Jft (op:BinOp) (t:TypeId) (x y:Operand) (k:IntKind) (n:Int) (b:Value):(eqGuard op t x y (.int k n) b).run P w= .ok () w:=by
 unfold eqGuard
 split<;>rfl
theorem Jd4 (op:BinOp) (t:TypeId) (x y:Operand) (n:Bool) (b:Value):(eqGuard op t x y (.bool n) b).run P w= .ok () w:=by
 unfold eqGuard
 split<;>rfl
theorem Jfg (op:BinOp) (t:TypeId) (x y:Operand) (n:ByteArray) (b:Value):(eqGuard op t x y (.string n) b).run P w= .ok () w:=by
 unfold eqGuard
 split<;>rfl
theorem Jcb (op:BinOp) (t:TypeId) (x y:Operand) (c d:Array Value) (h:P.eqGuardType P.depth t=false):(eqGuard op t x y (.agg c) (.agg d)).run P w= .ok () w:=by
 unfold eqGuard
 cases op<;>simp[h]
theorem JgD {op:BinOp} {k:IntKind} {x y:Int} {eff:Eff} (hs:op≠ .shl∧op≠ .shr) (h:JiU op k x y=some eff) (hn:eff.need) (t:TypeId):
  ∃v:SV,eff.val=some v∧eff.wr=[]∧v.ok∧∀γ,(binOp op t (.int k x) (.int k y)).run P w= .ok (v.den γ) w:=by
 cases op<;>simp only[JiU,Ju,Vp,Option.some.injEq] at h
 case shl=>exact absurd rfl hs.1
 case shr=>exact absurd rfl hs.2
 case quo=>subst h;have hn':y≠0:=hn;exact⟨_,rfl,rfl,⟨trivial,trivial⟩,fun γ=>by simp[binOp,Op.intDiv,hn',SV.den,V1.den,Leaf.cells]⟩
 case rem=>subst h;have hn':y≠0:=hn;exact⟨_,rfl,rfl,⟨trivial,trivial⟩,fun γ=>by simp[binOp,Op.intDiv,hn',SV.den,V1.den,Leaf.cells]⟩
 all_goals first
  |(subst h;exact⟨_,rfl,rfl,⟨trivial,trivial⟩,fun γ=>by simp[binOp,Op.intArith,Op.intBits,Op.intCmp,SV.den,V1.den,Leaf.cells,JaB,bor,XG,JmJ]⟩)
  |cases h
theorem Jk5 (hT:TOk P T) {op:BinOp} {t:TypeId} {u v:SV} {eff:Eff} (hu:u.ok) (hv:v.ok) (h:Jnf T op t u v=some eff) (hn:eff.need) (x y:Operand):
  ∃r:SV,eff.val=some r∧eff.wr=[]∧r.ok∧(do eqGuard op t x y (u.den γ) (v.den γ);binOp op t (u.den γ) (v.den γ):Sem Value).run P w= .ok (r.den γ) w:=by
 unfold Jnf at h
 split at h
 ·rename_i k m k' n
  have hg:=fun w=>Jft (P:=P) (w:=w) op t x y k m (.int k' n)
  split at h
  ·simp only[Vp,Option.some.injEq] at h
   subst h
   have h0:¬n<0:=by have:0≤n:=hn;omega
   exact⟨_,rfl,rfl,⟨trivial,trivial⟩,by simp[SV.den,V1.den,Leaf.cells,hg,binOp,Op.shift,h0,shl]⟩
  ·simp only[Vp,Option.some.injEq] at h
   subst h
   have h0:¬n<0:=by have:0≤n:=hn;omega
   exact⟨_,rfl,rfl,⟨trivial,trivial⟩,by simp[SV.den,V1.den,Leaf.cells,hg,binOp,Op.shift,h0,shr]⟩
  ·rename_i op hs1 hs2
   cases hk:keq k k' with
   |false=>simp[hk] at h
   |true=>
    simp only[hk,cond_true] at h
    obtain rfl:=WF hk
    obtain⟨r,h1,h2,h3,h4⟩:=JgD (P:=P) (w:=w) ⟨hs1,hs2⟩ h hn t
    exact⟨r,h1,h2,h3,by rw[←h4 γ];simp[SV.den,V1.den,Leaf.cells,hg]⟩
 ·rename_i m n
  have hg:=fun w=>Jd4 (P:=P) (w:=w) op t x y m (.bool n)
  split at h
  ·rename_i hb
   simp only[Ju,Option.some.injEq] at h
   subst h
   have:=run_equal_bool (P:=P) w t m n (hT t _ hb).1
   exact⟨_,rfl,rfl,⟨trivial,trivial⟩,by simp[SV.den,V1.den,Leaf.cells,hg,binOp,this]⟩
  ·rename_i hb
   simp only[Ju,Option.some.injEq] at h
   subst h
   have:=run_equal_bool (P:=P) w t m n (hT t _ hb).1
   exact⟨_,rfl,rfl,⟨trivial,trivial⟩,by simp[SV.den,V1.den,Leaf.cells,hg,binOp,this]⟩
  ·cases h
 ·rename_i m n
  have hg:=fun w=>Jfg (P:=P) (w:=w) op t x y m (.string n)
  split at h
  ·rename_i hb
   simp only[Ju,Option.some.injEq] at h
   subst h
   exact⟨_,rfl,rfl,⟨trivial,trivial⟩,by simp[SV.den,V1.den,Leaf.cells,hg,binOp,Op.stringOp,ByteArray.toList_eq]⟩
  ·rename_i hb
   simp only[Ju,Option.some.injEq] at h
   subst h
   exact⟨_,rfl,rfl,⟨trivial,trivial⟩,by simp[SV.den,V1.den,Leaf.cells,hg,binOp,Op.stringOp,ByteArray.toList_eq]⟩
  ·cases h
 ·rename_i k n l k' n' l'
  have hl:l.length=n:=hu (.arr k n l) (by simp)
  have hl':l'.length=n':=hv (.arr k' n' l') (by simp)
  split at h
  ·rename_i n2 e k2 hb
   cases hk:(keq k k'&&Nat.beq n n'&&Nat.beq n n2&&keq k k2) with
   |false=>simp[hk] at h
   | true=>
    simp only[hk,cond_true,Ju,Option.some.injEq] at h
    subst h
    simp only[Bool.and_eq_true] at hk
    obtain⟨⟨⟨e1,e2⟩,e3⟩,e4⟩:=hk
    obtain rfl:=WF e1
    obtain rfl:=Nat.eq_of_beq_eq_true e2
    obtain rfl:=Nat.eq_of_beq_eq_true e3
    obtain rfl:=WF e4
    obtain⟨t1,t2,t3,t4,t5⟩:=hT t _ hb
    have hg:=fun w=>Jcb (P:=P) (w:=w) .eql t x y (l.map (Value.int k)).toArray (l'.map (Value.int k)).toArray t5
    have he:=Jad (P:=P) (w:=w) 9998 t e n k t1 t2 (Vz t4) l l' hl hl'
    exact⟨_,rfl,rfl,⟨trivial,trivial⟩,by
     simp only[SV.den,V1.den,Jq,List.flatMap_cons,List.flatMap_nil,List.append_nil,Leaf.cells,List.headD_cons,Sem.run_bind,hg,Result.andThen_ok,run_eql_struct,he]⟩
  ·rename_i n2 e k2 hb
   cases hk:(keq k k'&&Nat.beq n n'&&Nat.beq n n2&&keq k k2) with
   |false=>simp[hk] at h
   | true=>
    simp only[hk,cond_true,Ju,Option.some.injEq] at h
    subst h
    simp only[Bool.and_eq_true] at hk
    obtain⟨⟨⟨e1,e2⟩,e3⟩,e4⟩:=hk
    obtain rfl:=WF e1
    obtain rfl:=Nat.eq_of_beq_eq_true e2
    obtain rfl:=Nat.eq_of_beq_eq_true e3
    obtain rfl:=WF e4
    obtain⟨t1,t2,t3,t4,t5⟩:=hT t _ hb
    have hg:=fun w=>Jcb (P:=P) (w:=w) .neq t x y (l.map (Value.int k)).toArray (l'.map (Value.int k)).toArray t5
    have he:=Jad (P:=P) (w:=w) 9998 t e n k t1 t2 (Vz t4) l l' hl hl'
    exact⟨_,rfl,rfl,⟨trivial,trivial⟩,by
     simp only[SV.den,V1.den,Jq,List.flatMap_cons,List.flatMap_nil,List.append_nil,Leaf.cells,List.headD_cons,Sem.run_bind,hg,Result.andThen_ok,run_neq_struct,he]⟩
  ·cases h
 ·cases h
theorem Jl4 {op:UnOp} {u:SV} {eff:Eff} (h:unS op u=some eff):
  ∃r:SV,eff.val=some r∧eff.wr=[]∧r.ok∧(Op.unary op (u.den γ)).run P w= .ok (r.den γ) w:=by
 unfold unS at h
 split at h<;>try split at h
 all_goals first
  |(simp only [Ju,Option.some.injEq] at h;subst h;exact⟨_,rfl,rfl,⟨trivial,trivial⟩,by simp[SV.den,V1.den,Leaf.cells,Op.unary,Op.intArith,Op.intBits,XG]⟩)
  |cases h
end Go.Gw

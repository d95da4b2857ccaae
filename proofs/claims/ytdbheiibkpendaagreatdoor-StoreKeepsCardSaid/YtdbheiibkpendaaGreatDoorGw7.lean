/- The walk's engine, part 7: a region of operations, in the text's order. -/
import Derived.Test.YtdbheiibkpendaaGreatDoorGw6
import Derived.Tactics
namespace Go.Gw
open Go.RowKit
structure Rec where
 o:Oper
 hint:Hint
 want:Bool
 eff:Eff
 rd : Nat      -- what it looks at: a bit for each slot and each key
 wt : Nat      -- what it writes
def JlJ (t:Nat):Nat:=Nat.pow 2 (2*t)
def JeU (κ:Nat):Nat:=Nat.pow 2 (2*κ+1)
def Loc.bit:Loc→Nat
 | .s t=>JlJ t
 | .h κ=>JeU κ
def Ent.keysL:Ent→List Nat
 | .blk _ l| .rblk _ l| .lit _ _ l=>l.flatMap V1.keys.lk
 | .arena _ bs _=>bs
 | .apt κ _=>[κ]
 | .wv κ _=>[κ]
 | .ptn κ _=>[κ]
 |_=>[]
def Cont.keysL:Cont→List Nat
 | .v x=>x.keys
 | .e x=>x.keysL
def Yb (κ:Nat):SS→Bool
 |[]=>true
 |(l,c)::r=> !(Loc.beq l (.h κ))&& !(c.keysL.any (Nat.beq κ))&&Yb κ r
def QZ:List Nat→Bool
 |[]=>true
 |x::r=> !(r.any (Nat.beq x))&&QZ r
def Xj (hint:Hint) (σ:SS):Bool:=
 match hint with
 | .ar _ ns=>ns.all (fun κ=>Yb κ σ&&Nat.blt κ 9000)&&QZ ns
 | .bb ns=>ns.all (fun κ=>Yb κ σ&&Nat.blt κ 9000)&&QZ ns
 | .of ns=>ns.all (fun κ=>Yb κ σ&&Nat.blt κ 9000)&&QZ ns
 | .oi ns=>ns.all (fun κ=>Yb κ σ&&Nat.blt κ 9000)&&QZ ns
 | .arW _ ns=>ns.all (fun κ=>Yb κ σ&&Nat.blt κ 9000)&&QZ ns
 | .gk ks=>(ks.flatMap GK.keys).all (fun κ=>Yb κ σ&&Nat.blt κ 9000)&&QZ (ks.flatMap GK.keys)
 | .arN κ ns=>(κ::ns).all (fun κ=>Yb κ σ&&Nat.blt κ 9000)&&QZ (κ::ns)
 | .callA ks _ news=>news.all fun p=>(Yb p.1 σ&&Nat.blt p.1 9000)||ks.any fun q=>Nat.beq q.1 p.1
 | .key κ| .dk κ _| .lk κ=>Yb κ σ&&Nat.blt κ 9000
 | .call ks _ news=>news.all fun p=>(Yb p.1 σ&&Nat.blt p.1 9000)||ks.any (Nat.beq p.1)
 |_=>true
def Jjh (hint:Hint) (e:Eff):Bool:=
 match hint with
 | .bb ns=>ns.all fun κ=>e.wr.any fun p=>Nat.beq p.1 κ
 | .of ns=>ns.all fun κ=>e.wr.any fun p=>Nat.beq p.1 κ
 | .oi ns=>ns.all fun κ=>e.wr.any fun p=>Nat.beq p.1 κ
 | .arW _ ns=>ns.all fun κ=>e.wr.any fun p=>Nat.beq p.1 κ
 | .gk ks=>(ks.flatMap GK.keys).all fun κ=>e.wr.any fun p=>Nat.beq p.1 κ
 | .ar _ ns=>ns.all fun κ=>e.wr.any fun p=>Nat.beq p.1 κ
 | .arN κ ns=>(κ::ns).all fun κ=>e.wr.any fun p=>Nat.beq p.1 κ
 | .callA _ _ news=>news.all fun q=>e.wr.any fun p=>Nat.beq p.1 q.1
 | .key κ| .dk κ _| .lk κ=>e.wr.any fun p=>Nat.beq p.1 κ
 | .call _ _ news=>news.all fun q=>e.wr.any fun p=>Nat.beq p.1 q.1
 |_=>true
def Jeb (dsts:List (Option Nat)) (σ:Stt):Option (Nat×Bool)→Option Bool
 |none=>some true
 | some (j,want)=>match dsts[j]? with
  |some (some d)=>match Jaj σ d with
   |some (.v (.one (.bool true)))=>some want
   |some (.v (.one (.bool false)))=>some !want
   |some (.tup [])=>some false
   |_=>none
  |_=>none
def Jae:List (Nat×Hint)→Nat→Hint
 |[],_=> .no
 |(j,h)::r,i=>bif Nat.beq j i then h else Jae r i
def Eff.dstVal (e:Eff):SV:=e.val.getD (.tup [])
def JaC (dst:Option Nat) (e:Eff) (σ:SS):SS:=
 match dst with
 |some d=>(.s d,.v e.dstVal)::(e.wr.map (fun p=>(Loc.h p.1,Cont.e p.2))++σ)
 |none=>e.wr.map (fun p=>(Loc.h p.1,Cont.e p.2))++σ
def orL:List Nat→Nat
 |[]=>0
 |a::r=>Nat.lor a (orL r)
def Jnj:Operand→Nat
 | .tmp t=>JlJ t
 |_=>0
def Jk8 (σ:Stt):Operand→Nat
 | .tmp t=>match Jaj σ t with
  |some x=>orL (x.keys.map JeU)
  |none=>0
 |_=>0
def Jbo:Hint→List Nat
 | .call ks _ _=>ks
 | .ar κ _=>[κ]
 | .arW κ _=>[κ]
 | .callA ks _ news=>ks.flatMap JkC++news.flatMap fun p=>JlL (some p.2)
 |_=>[]
def JjZ (dsts:List (Option Nat)) (σ:Stt) (h:Hint) (o:Oper) (e:Eff):Nat:=
 Nat.lor (orL ((Jbo h).map JeU))<|Nat.lor (orL (o.op.operands.toList.map Jnj)) (Nat.lor (orL (o.op.operands.toList.map (Jk8 σ)))
  (Nat.lor (match o.guard with|some (j,_)=>(match dsts[j]? with|some (some d)=>JlJ d|_=>0)|none=>0)
   (Nat.lor (orL (e.dstVal.keys.map JeU)) (orL (e.wr.map fun p=>orL (p.2.keysL.map JeU))))))
def JlN (o:Oper) (e:Eff):Nat:=
 Nat.lor (match o.dst with|some d=>JlJ d|none=>0) (orL (e.wr.map fun p=>JeU p.1))
def Jgs (N:Nat):Option Nat→Bool
 |some d=>Nat.blt d N
 |none=>true
def Jia (P:Program) (T:TypeId→Option TD) (N:Nat) (dsts:List (Option Nat)) (hs:List (Nat×Hint)):List Oper→Nat→SS→Option (List Rec×SS)
 |[],_,σ=>some ([],σ)
 | o ::r,i,σ=>
  bif Jgs N o.dst then
   match Jeb dsts (look σ) o.guard with
   |none=>none
   |some false=>(Jia P T N dsts hs r (i+1) (JaC o.dst ⟨none,[],[]⟩ σ)).map fun p=>(⟨o,.no,false,⟨none,[],[]⟩,JjZ dsts (look σ) .no o ⟨none,[],[]⟩,JlN o ⟨none,[],[]⟩⟩::p.1,p.2)
   | some true=>
    bif Xj (Jae hs i) σ then
     match JaQ P T (look σ) (Jae hs i) o.op with
     |none=>none
     |some e=>bif Jjh (Jae hs i) e then(Jia P T N dsts hs r (i+1) (JaC o.dst e σ)).map fun p=>(⟨o,Jae hs i,true,e,JjZ dsts (look σ) (Jae hs i) o e,JlN o e⟩::p.1,p.2) else none
    else none
  else none
def Qo:List Rec→List Prop
 |[]=>[]
 |r::l=>r.eff.needs++Qo l
def restr (σ:SS):List Loc→Option SS
 |[]=>some []
 |l::r=>match look σ l,restr σ r with
  |some c,some σ'=>some ((l,c)::σ')
  |_,_=>none
def JmO (P:Program) (T:TypeId→Option TD) (N:Nat) (ops:List Oper) (hs:List (Nat×Hint)) (live:List Loc) (σ:SS):Option (SS×List Prop):=
 match Jia P T N (ops.map (·.dst)) hs ops 0 σ with
 |none=>none
 |some (recs,σ')=>match restr σ' live with
  |none=>none
  |some σ''=>some (σ'',Qo recs)
variable {P:Program} {T:TypeId→Option TD} {B:Nat→Prop} {N:Nat} {w0:W0} {γ:Nat→Value} {a:Act} {w:World}
theorem JdM (c:Cont):c.keysL=c.keys:=by
 cases c with
 |v x=>rfl
 |e x=>
  have hl:∀l:List Leaf,l.flatMap V1.keys.lk=l.flatMap Leaf.keys:=fun l=>by congr 1
  cases x with
  |blk ty l=>exact hl l
  |rblk ty l=>exact hl l
  |lit e n l=>exact hl l
  |_=>rfl
theorem XO {κ:Nat}:∀{σ:SS},Yb κ σ=true→∀l c,(l,c)∈σ→l≠ .h κ∧κ∉c.keys
 |[],_,l,c,h=>by simp at h
 | (l0,c0)::r,hb,l,c,h=>by
  simp only[Yb,Bool.and_eq_true,Bool.not_eq_true'] at hb
  obtain⟨⟨h1,h2⟩,h3⟩:=hb
  rcases List.mem_cons.1 h with h|h
  ·cases h
   refine⟨fun e=>(by rw[Loc.beq_iff.2 e] at h1;cases h1),fun hk=> ?_⟩
   rw[←JdM] at hk
   have:c0.keysL.any (Nat.beq κ)=true:=List.any_eq_true.2 ⟨κ,hk,Nat.beq_refl κ⟩
   rw[this] at h2;cases h2
  ·exact XO h3 l c h
theorem JbB:∀{σ:SS} {l:Loc} {c:Cont},look σ l=some c→(l,c)∈σ
 |[],l,c,h=>by simp[look] at h
 | (l0,c0)::r,l,c,h=>by
  simp only[look] at h
  cases hb:l0.beq l with
  |true=>
   simp only[hb,cond_true,Option.some.injEq] at h
   have:=Loc.beq_iff.1 hb
   subst this;subst h
   simp
  |false=>
   simp only[hb,cond_false] at h
   exact List.mem_cons_of_mem _ (JbB h)
theorem WL {κ:Nat} {σ:SS} (h0:(Yb κ σ&&Nat.blt κ 9000)=true):NoKey κ (look σ):=by
 simp only[Bool.and_eq_true,Nat.blt_eq] at h0
 obtain⟨h,hlt⟩:=h0
 refine⟨?_,fun l c hc=>(XO h l c (JbB hc)).2,hlt⟩
 cases hl:look σ (.h κ) with
 |none=>rfl
 |some c=>exact absurd rfl (XO h _ _ (JbB hl)).1
theorem Vn:∀{l:List Nat},QZ l=true→l.Nodup
 |[],_=>List.nodup_nil
 |x::r,h=>by
  simp only[QZ,Bool.and_eq_true,Bool.not_eq_true'] at h
  refine List.nodup_cons.2 ⟨fun hm=> ?_,Vn h.2⟩
  have:=List.any_eq_true.2 ⟨x,hm,Nat.beq_refl x⟩
  rw[this] at h
  cases h.1
theorem Je8 {hint:Hint} {σ:SS} (h:Xj hint σ=true):Jd5 hint (look σ):=by
 cases hint with
 |key κ=>exact WL h
 |dk κ eb=>exact WL h
 |lk κ=>exact WL h
 |call ks res news=>
  intro p hp
  have:=List.all_eq_true.1 h p hp
  rw[Bool.or_eq_true] at this
  exact this.imp WL id
 |oi ns=>
  simp only[Xj,Bool.and_eq_true] at h
  exact⟨fun κ' hκ'=>WL (List.all_eq_true.1 h.1 κ' hκ'),Vn h.2⟩
 |of ns=>
  simp only[Xj,Bool.and_eq_true] at h
  exact⟨fun κ' hκ'=>WL (List.all_eq_true.1 h.1 κ' hκ'),Vn h.2⟩
 |bb ns=>
  simp only[Xj,Bool.and_eq_true] at h
  exact⟨fun κ' hκ'=>WL (List.all_eq_true.1 h.1 κ' hκ'),Vn h.2⟩
 |gk ks=>
  simp only[Xj,Bool.and_eq_true] at h
  exact⟨fun κ' hκ'=>WL (List.all_eq_true.1 h.1 κ' hκ'),Vn h.2⟩
 |arW κ ns=>
  simp only[Xj,Bool.and_eq_true] at h
  exact⟨fun κ' hκ'=>WL (List.all_eq_true.1 h.1 κ' hκ'),Vn h.2⟩
 |ar κ ns=>
  simp only[Xj,Bool.and_eq_true] at h
  exact⟨fun κ' hκ'=>WL (List.all_eq_true.1 h.1 κ' hκ'),Vn h.2⟩
 |arN κ ns=>
  simp only[Xj] at h
  rw[Bool.and_eq_true] at h
  have h1:=List.all_eq_true.1 h.1
  exact⟨WL (h1 κ (by simp)),fun κ' hκ'=>WL (h1 κ' (by simp[hκ'])),Vn h.2⟩
 |callA ks res news=>
  intro p hp
  have:=List.all_eq_true.1 h p hp
  rw[Bool.or_eq_true] at this
  exact this.imp WL id
 |_=>trivial
theorem Jef (l:Loc) (c:Cont) (σ:SS):look ((l,c)::σ)=JdP (look σ) l c:=by
 funext x
 rfl
theorem Jir (wr:List (Nat×Ent)) (σ:SS):look (wr.map (fun p=>(Loc.h p.1,Cont.e p.2))++σ)=Wl (look σ) wr:=by
 induction wr with
 |nil=>rfl
 |cons p r ih=>obtain⟨κ,e⟩:=p;simp only[List.map_cons,List.cons_append,Jef,ih,Wl]
def applyE (dst:Option Nat) (e:Eff) (σ:Stt):Stt:=
 match dst with
 |some d=>JdP (Wl σ e.wr) (.s d) (.v e.dstVal)
 |none=>Wl σ e.wr
theorem Jax (dst:Option Nat) (e:Eff) (σ:SS):look (JaC dst e σ)=applyE dst e (look σ):=by
 cases dst with
 |some d=>simp only[JaC,applyE,Jef,Jir]
 |none=>simp only[JaC,applyE,Jir]
theorem Inv.applyE {σ:Stt} {dst:Option Nat} (hd:Jgs N dst=true) {e:Eff} {v:Value} {w':World} (h:Post B N w0 σ a e v w'):∃γ',Inv B N w0 γ' (applyE dst e σ) (a.put dst v) w':=by
 obtain⟨γ',h1,h2,I⟩:=h
 refine⟨γ',?_⟩
 cases dst with
 |none=>exact I
 |some d=>
  subst h1
  exact I.put (by simpa[Jgs,Nat.blt_eq] using hd) h2
theorem JaW {σ:Stt} {ops:List Oper} (I:Inv B N w0 γ σ a w) {o:Oper} {b:Bool} (h:Jeb (ops.map (·.dst)) σ o.guard=some b):
  Region.wanted o (yielded ops.toArray a.tmps)=b:=by
 unfold Jeb at h
 unfold Region.wanted
 split at h
 ·rename_i hg;rw[hg];simpa using h
 ·rename_i j want hg
  rw[hg]
  simp only
  split at h
  ·rename_i d hd
   have hj:(ops.toArray[j]?).bind (·.dst)=some d:=by
    simp only[List.getElem?_map,Option.map_eq_some_iff] at hd
    obtain⟨o',h1,h2⟩:=hd
    simp[h1,h2]
   have hy:∀x:SV,Jaj σ d=some x→(∃v,a.tmps[d]? =some v∧v=x.den γ)∨(a.tmps[d]? =none∧undef=x.den γ):=fun x hx=>by
    have:=(I.look_slot hx).1
    simp only[Act.eval] at this
    cases hq:a.tmps[d]? with
    |none=>right;simp[hq] at this;exact⟨rfl,this⟩
    |some v=>left;simp[hq] at this;exact⟨v,rfl,this⟩
   split at h
   ·rename_i hl
    simp only[Option.some.injEq] at h
    subst h
    rcases hy _ hl with⟨v,h1,rfl⟩|⟨h1,h2⟩
    ·simp only[yielded,hj,Option.bind_some,h1]
     cases want<;>rfl
    ·cases h2
   ·rename_i hl
    simp only[Option.some.injEq] at h
    subst h
    rcases hy _ hl with⟨v,h1,rfl⟩|⟨h1,h2⟩
    ·simp only[yielded,hj,Option.bind_some,h1]
     cases want<;>rfl
    ·cases h2
   ·rename_i hl
    simp only[Option.some.injEq] at h
    subst h
    rcases hy _ hl with⟨v,h1,rfl⟩|⟨h1,h2⟩
    ·simp only[yielded,hj,Option.bind_some,h1]
     rfl
    ·simp only[yielded,hj,Option.bind_some,h1]
     rfl
   ·cases h
  ·cases h
theorem JbY {o:Oper} {K:Act→World→Prop} {Q:Exit→Act→World→Prop} (h:RunOk P (execOp a.eval o) w fun v w'=>K (a.put o.dst v) w'):o.wp P a w K Q:=by
 unfold Oper.wp
 unfold RunOk at h
 generalize (execOp a.eval o).run P w=r at h
 cases r with
 | ok x w'=>
  cases x<;>first
   |exact h
   |(refine Calls.mono h fun e w'' ⟨v,h1,h2⟩=> ?_;subst h1;exact h2)
   |exact h.elim
 |halt x w'=>exact h.elim
theorem JcA (hT:TOk P T) {ops:List Oper} {hs:List (Nat×Hint)} {Q:Exit→Act→World→Prop}:∀(l:List Oper) (i:Nat) (σ σ':SS) (recs:List Rec) (γ:Nat→Value) (a:Act) (w:World),
  Jia P T N (ops.map (·.dst)) hs l i σ=some (recs,σ')→Wn (Qo recs)→Inv B N w0 γ (look σ) a w→
  (∀γ' a' w',Inv B N w0 γ' (look σ') a' w'→Q .normal a' w')→wpList P ops.toArray Q l a w
 |[],i,σ,σ',recs,γ,a,w,h,_,I,hQ=>by
  simp only[Jia,Option.some.injEq,Prod.mk.injEq] at h
  obtain⟨_,rfl⟩:=h
  exact hQ γ a w I
 | o ::r,i,σ,σ',recs,γ,a,w,h,hn,I,hQ=>by
  simp only[Jia] at h
  cases hd:Jgs N o.dst with
  |false=>simp[hd] at h
  | true=>
   simp only[hd,cond_true] at h
   split at h
   ·cases h
   ·rename_i hw
    simp only[Option.map_eq_some_iff] at h
    obtain⟨⟨recs',σ1⟩,h1,h2⟩:=h
    simp only[Prod.mk.injEq] at h2
    obtain⟨rfl,rfl⟩:=h2
    have hw':=JaW I hw
    obtain⟨γ',I'⟩:=Inv.applyE (e:=⟨none,[],[]⟩) (v:=undef) hd ⟨γ,rfl,by intro x hx;simp at hx,I⟩
    rw[←Jax] at I'
    have:=JcA hT r (i+1) _ σ1 recs' γ' _ w h1 (by simpa[Qo] using hn) I' hQ
    simp only[wpList,hw',Bool.false_eq_true,if_false]
    exact this
   ·rename_i hw
    cases hf:Xj (Jae hs i) σ with
    |false=>simp[hf] at h
    | true=>
     simp only[hf,cond_true] at h
     split at h
     ·cases h
     ·rename_i e he
      cases hx:Jjh (Jae hs i) e with
      |false=>simp[hx] at h
      |true=>
      simp only[hx,cond_true,Option.map_eq_some_iff] at h
      obtain⟨⟨recs',σ1⟩,h1,h2⟩:=h
      simp only[Prod.mk.injEq] at h2
      obtain⟨rfl,rfl⟩:=h2
      have hw':=JaW I hw
      simp only[Qo] at hn
      obtain⟨hn1,hn2⟩:=VU.1 hn
      have hs1:=Jc6 hT I (Je8 hf) he hn1
      simp only[wpList,hw',if_true]
      refine .inl (JbY (hs1.mono fun v w' hp=> ?_))
      obtain⟨γ',I'⟩:=Inv.applyE hd hp
      rw[←Jax] at I'
      exact JcA hT r (i+1) _ σ1 recs' γ' _ w' h1 hn2 I' hQ
theorem YD:∀{live:List Loc} {σ σ':SS},restr σ live=some σ'→∀l c,look σ' l=some c→look σ l=some c
 |[],σ,σ',h,l,c,hc=>by
  simp only[restr,Option.some.injEq] at h
  subst h
  simp[look] at hc
 | l0::r,σ,σ',h,l,c,hc=>by
  simp only[restr] at h
  split at h
  ·rename_i c0 σ1 h1 h2
   simp only[Option.some.injEq] at h
   subst h
   simp only[look] at hc
   cases hb:l0.beq l with
   |true=>
    simp only[hb,cond_true,Option.some.injEq] at hc
    have:=Loc.beq_iff.1 hb
    subst this;subst hc
    exact h1
   |false=>
    simp only[hb,cond_false] at hc
    exact YD h2 l c hc
  ·cases h
theorem Inv.weaken {σ σ':Stt} (I:Inv B N w0 γ σ a w) (h:∀l c,σ' l=some c→σ l=some c):Inv B N w0 γ σ' a w:=
 ⟨I.size,I.defers,fun t x hx=>I.slot t x (h _ _ hx),fun κ e he=>I.ent κ e (h _ _ he),fun κ e κ' e' h1 h2=>I.apart κ e κ' e' (h _ _ h1) (h _ _ h2),I.below,I.top,I.cell1,I.fixed⟩
theorem Jfs (hT:TOk P T) {id:Nat} {ops:Array Oper} {hs:List (Nat×Hint)} {live:List Loc} {σ σ':SS} {needs:List Prop} {Q:Exit→Act→World→Prop}
  (h:JmO P T N ops.toList hs live σ=some (σ',needs)) (hn:Wn needs) (I:Inv B N w0 γ (look σ) a w) (hQ:∀γ' a' w',Inv B N w0 γ' (look σ') a' w'→Q .normal a' w'):
  (Code.region id ops false).wp P Q a w:=by
 unfold JmO at h
 split at h
 ·cases h
 ·rename_i recs σ1 h1
  split at h
  ·cases h
  ·rename_i σ2 h2
   simp only[Option.some.injEq,Prod.mk.injEq] at h
   obtain⟨rfl,rfl⟩:=h
   refine wp_region_list ?_
   have:=JcA (Q:=Q) hT ops.toList 0 σ σ1 recs γ a w h1 hn I fun γ' a' w' I'=>hQ γ' a' w' (I'.weaken (YD h2))
   simpa using this
end Go.Gw

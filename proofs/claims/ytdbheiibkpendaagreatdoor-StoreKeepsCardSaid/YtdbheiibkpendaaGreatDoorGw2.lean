/- The walk's engine, part 2: one operation. -/
import Derived.Test.YtdbheiibkpendaaGreatDoorGw1
namespace Go.Gw
open Go.RowKit
def TD.ok (P:Program) (t:TypeId):TD→Prop
 | .int k=>P.underlying t=some (.int k)∧(P.info? t).map (fun i=>(i.size,i.zero))=some (1,some (.int k 0))
 | .bool=>P.underlying t=some .bool∧(P.info? t).map (fun i=>(i.size,i.zero))=some (1,some (.bool false))
 | .str=>P.underlying t=some .string∧(P.info? t).map (fun i=>(i.size,i.zero))=some (1,some (.string ByteArray.empty))
 | .arr n e k=>P.underlying t=some (.array n e)∧P.underlying e=some (.int k)∧(P.info? t).map (fun i=>(i.size,i.zero))=some (n,some (.agg ((List.replicate n (Value.int k 0)).toArray)))∧
   (P.info? e).map (·.size)=some 1∧P.eqGuardType P.depth t=false
 | .struct n offs z=>∃fs,P.underlying t=some (.struct fs)∧fs.toList.mapM (fun f=>(P.info? f.type).map fun i=>(f.offset,i.size))=some offs∧
   (∀γ,(P.info? t).map (fun i=>(i.size,i.zero))=some (n,some (.agg (Jq γ z).toArray)))∧(z.map Leaf.size).sum=n∧∀x∈z,x.ok∧x.keys=[]
 | .slice e k=>P.underlying t=some (.slice e)∧P.underlying e=some (.int k)∧(P.info? e).map (fun i=>(i.size,i.bytes,i.zero))=some (1,cst k,some (.int k 0))∧(P.info? t).map (fun i=>(i.size,i.zero))=some (1,some (.slice none 0 0))
 | .sliceR e sz=>P.underlying t=some (.slice e)∧(P.info? e).map (·.size)=some sz∧(P.info? t).map (fun i=>(i.size,i.zero))=some (1,some (.slice none 0 0))∧
   ((P.info? e).elim false fun i=>Nat.ble i.bytes 128&&Nat.ble 1 i.size&&Nat.ble i.size 16&&i.zero.elim false fun z=>Nat.beq z.cells.size i.size)=true
 | .arrG n e sz z=>P.underlying t=some (.array n e)∧(P.info? e).map (·.size)=some sz∧1≤sz∧(∀γ,(P.info? t).map (fun i=>(i.size,i.zero))=some (n*sz,some (.agg (Jq γ z).toArray)))∧(z.map Leaf.size).sum=n*sz∧∀x∈z,x.ok∧x.keys=[]
 | .mapP=>∃k e e',P.underlying t=some (.map k e)∧P.underlying k=some (.int .i64)∧P.underlying e=some (.pointer e')∧(P.info? e).map (fun i=>(i.size,i.zero))=some (1,some (.pointer none))∧(P.info? t).map (fun i=>(i.size,i.zero))=some (1,some (.map none))
 | .ptr=>∃e,P.underlying t=some (.pointer e)∧(P.info? t).map (fun i=>(i.size,i.zero))=some (1,some (.pointer none))
 | .ifc=>∃ms,P.underlying t=some (.interface ms)∧(P.info? t).map (fun i=>(i.size,i.zero))=some (1,some .nilIface)
def TOk (P:Program) (T:TypeId→Option TD):Prop:=∀t d,T t=some d→d.ok P t
def JdP (σ:Stt) (l:Loc) (c:Cont):Stt:=fun x=>bif l.beq x then some c else σ x
def Wl (σ:Stt):List (Nat×Ent)→Stt
 |[]=>σ
 |(κ,e)::r=>JdP (Wl σ r) (.h κ) (.e e)
def NoKey (κ:Nat) (σ:Stt):Prop:=σ (.h κ)=none∧(∀l c,σ l=some c→κ∉c.keys)∧κ<9000
theorem Loc.beq_iff {a b:Loc}:a.beq b=true↔a=b:=by
 cases a<;>cases b<;>simp[Loc.beq]
theorem XU (σ:Stt) (l:Loc) (c:Cont):JdP σ l c l=some c:=by simp[JdP,Loc.beq_iff.2 rfl]
theorem WH (σ:Stt) {l x:Loc} (c:Cont) (h:l≠x):JdP σ l c x=σ x:=by
 unfold JdP
 cases hb:l.beq x with
 |true=>exact absurd (Loc.beq_iff.1 hb) h
 |false=>rfl
theorem WP (σ:Stt) (wr:List (Nat×Ent)) (t:Nat):Wl σ wr (.s t)=σ (.s t):=by
 induction wr with
 |nil=>rfl
 |cons p r ih=>obtain⟨κ,e⟩:=p;simp only[Wl];rw[WH _ _ (by simp),ih]
theorem Vw (σ:Stt) (wr:List (Nat×Ent)) (κ:Nat) (c:Cont) (h:Wl σ wr (.h κ)=some c):(∃e,(κ,e)∈wr∧c= .e e)∨((∀p∈wr,p.1≠κ)∧σ (.h κ)=some c):=by
 induction wr with
 |nil=>exact .inr ⟨by simp,h⟩
 | cons p r ih=>
  obtain⟨κ',e⟩:=p
  simp only[Wl] at h
  by_cases hk:κ'=κ
  ·subst hk
   rw[XU] at h
   exact .inl ⟨e,by simp,by simpa using h.symm⟩
  ·rw[WH _ _ (by simp[hk])] at h
   rcases ih h with⟨e',h1,h2⟩|⟨h1,h2⟩
   ·exact .inl ⟨e',by simp[h1],h2⟩
   ·exact .inr ⟨by simpa[hk] using h1,h2⟩
variable {P:Program} {T:TypeId→Option TD} {B:Nat→Prop} {N:Nat} {w0:W0} {γ:Nat→Value} {σ:Stt} {a:Act} {w:World}
theorem Inv.look_slot (I:Inv B N w0 γ σ a w) {t:Nat} {x:SV} (h:Jaj σ t=some x):a.eval (.tmp t)=x.den γ∧x.ok:=by
 unfold Jaj at h
 split at h
 ·rename_i y hy
  simp only[Option.some.injEq] at h
  subst h
  exact I.slot t _ hy
 ·cases h
theorem Jg6 {v:Value} {x:SV} (h:JcV v=some x) (γ:Nat→Value):v=x.den γ∧x.ok:=by
 unfold JcV at h
 split at h<;>first|(simp only [Option.some.injEq] at h;subst h;exact⟨rfl,trivial,trivial⟩)|cases h
theorem Inv.eval (I:Inv B N w0 γ σ a w) {o:Operand} {x:SV} (h:Jg σ o=some x):a.eval o=x.den γ∧x.ok:=by
 cases o with
 |tmp t=>exact I.look_slot h
 |const v=>exact Jg6 h γ
 |func f=>simp only[Jg,Option.some.injEq] at h;subst h;exact⟨rfl,trivial,trivial⟩
 |global g=>cases h
theorem Inv.key (I:Inv B N w0 γ σ a w) {κ:Nat} {e:Ent} (h:Jh σ κ=some e):σ (.h κ)=some (.e e)∧e.at B γ w κ:=by
 unfold Jh at h
 split at h
 ·rename_i y hy
  simp only[Option.some.injEq] at h
  subst h
  exact⟨hy,I.ent κ _ hy⟩
 ·cases h
theorem Ja6 {o:Operand} {x:SV} (h:Jg σ o=some x) {κ:Nat} (hn:NoKey κ σ):κ∉x.keys:=by
 cases o with
 | tmp t=>
  simp only[Jg,Jaj] at h
  split at h
  ·rename_i y hy
   simp only[Option.some.injEq] at h
   subst h
   exact hn.2.1 _ _ hy
  ·cases h
 |const v=>
  simp only[Jg,JcV] at h
  split at h<;>first|(simp only [Option.some.injEq] at h;subst h;simp[SV.keys,V1.keys,V1.keys.lk])|cases h
 |func f=>simp only[Jg,Option.some.injEq] at h;subst h;simp[SV.keys,V1.keys,V1.keys.lk]
 |global g=>cases h
theorem WY {p:Prop} {l:List Prop}:Wn (p::l)↔p∧Wn l:=by
 cases l<;>simp[Wn]
theorem VU {l m:List Prop}:Wn (l++m)↔Wn l∧Wn m:=by
 induction l with
 |nil=>simp[Wn]
 |cons p r ih=>rw[List.cons_append,WY,WY,ih,and_assoc]
def Post (B:Nat→Prop) (N:Nat) (w0:W0) (σ:Stt) (a:Act) (eff:Eff) (v:Value) (w':World):Prop:=
 ∃γ',v=(eff.val.getD (.tup [])).den γ'∧(eff.val.getD (.tup [])).ok∧Inv B N w0 γ' (Wl σ eff.wr) a w'
theorem Post.pure (I:Inv B N w0 γ σ a w) {v:SV} {p:List Prop} (h:v.ok):Post B N w0 σ a ⟨some v,[],p⟩ (v.den γ) w:=⟨γ,rfl,h,I⟩
theorem Jm {s:Sem Value} {v:Value} {w':World} {post:Value→World→Prop} (h:s.run P w= .ok v w') (hp:post v w'):
  RunOk P (do pure (.value (←s))) w post:=by
 unfold RunOk
 simp[h,hp]
theorem JeY {s:Sem Unit} {w':World} {post:Value→World→Prop} (h:s.run P w= .ok () w') (hp:post undef w'):
  RunOk P (do s;pure .skip) w post:=by
 unfold RunOk
 simp[h,hp]
theorem BelowX.refl (B:Nat→Prop) (w:World):BelowX B w w:=⟨rfl,rfl,rfl,Nat.le_refl _,fun _ _ _=>rfl⟩
theorem BelowX.trans {B:Nat→Prop} {a b c:World} (h:BelowX B a b) (k:BelowX B b c):BelowX B a c:=
 ⟨k.os.trans h.os,k.tape.trans h.tape,k.output.trans h.output,Nat.le_trans h.size k.size,fun i hi hn=>(k.block i (Nat.lt_of_lt_of_le hi h.size) hn).trans (h.block i hi hn)⟩
theorem BelowX.mono {B B':Nat→Prop} {w w':World} (h:BelowX B w w') (hB:∀b,b<w.heap.size→B b→B' b):BelowX B' w w':=
 ⟨h.os,h.tape,h.output,h.size,fun k hk hn=>h.block k hk fun hb=>hn (hB k hk hb)⟩
def Yk (γ:Nat→Value) (w:World) (use:Nat→Prop) (b:Nat):Prop:=w.heap.size≤b∨∃κ,use κ∧Jw (γ κ)=some b
def YM (σ:Stt) (γ:Nat→Value) (w:World) (use:Nat→Prop) (b:Nat):Prop:=w.heap.size≤b∨∃κ e,use κ∧σ (.h κ)=some (.e e)∧e.reg γ w κ b
theorem Inv.newsR (I:Inv B N w0 γ σ a w) {γ':Nat→Value} {news:List (Nat×Ent)} {w':World} (use:Nat→Prop)
  (hf:∀p∈news,NoKey p.1 σ∨use p.1) (hu:∀κ,use κ→(∃p∈news,p.1=κ)∧∃e,σ (.h κ)=some (.e e)∧e.mut=true)
  (hg:∀κ,(∀p∈news,p.1=κ→use κ)→γ' κ=γ κ) (h1:∀κ,(γ' κ).oneCell'=true) (hb:BelowX (YM σ γ w use) w w')
  (ha:∀p∈news,p.2.at (YM σ γ w use) γ' w' p.1∧∀b,p.2.foot γ' w' p.1 b→YM σ γ w use b)
  (hd:YQ γ' w' news):Inv B N w0 γ' (Wl σ news) a w':=by
 have agree:∀l c,σ l=some c→∀κ∈c.keys,γ' κ=γ κ:=fun l c hc κ hκ=>hg κ fun p hp e=>by
  rcases hf p hp with h|h
  ·exact absurd (e▸hκ) (h.2.1 l c hc)
  ·exact e▸h
 have old:∀κ e,σ (.h κ)=some (.e e)→γ' κ=γ κ:=fun κ e he=>hg κ fun p hp e'=>by
  rcases hf p hp with h|h
  ·have:=h.1
   rw[e',he] at this
   cases this
  ·exact e'▸h
 have inB:∀b,YM σ γ w use b→B b:=fun b h=>by
  rcases h with h|⟨κ,e,h,hb⟩
  ·exact I.top b (Nat.le_trans I.below.size h)
  ·exact Ent.reg_in (I.ent κ _ hb.1) hb.2
 have still:∀κ e,(∀p∈news,p.1≠κ)→σ (.h κ)=some (.e e)→∀b,e.foot γ w κ b→¬YM σ γ w use b:=fun κ e hn he b hb ht=>by
  rcases ht with h|⟨κ1,e1',h,hb1⟩
  ·have:=Ent.foot_lt (I.ent κ e he) b hb
   omega
  ·obtain⟨⟨p,hp,hpe⟩,e1,he1,hm1⟩:=hu κ1 h
   have:e1'=e1:=by rw[hb1.1] at he1;cases he1;rfl
   subst this
   exact I.apart κ1 e1' κ e he1 he (fun e=>hn p hp (hpe.trans e)) hm1 b hb1.2 hb
 have same:∀κ e,(∀p∈news,p.1≠κ)→σ (.h κ)=some (.e e)→∀b,e.foot γ w κ b→w'.heap[b]? =w.heap[b]? :=fun κ e hn he b hb'=>
  hb.block b (Ent.foot_lt (I.ent κ e he) b hb') (still κ e hn he b hb')
 have footeq:∀κ e,(∀p∈news,p.1≠κ)→σ (.h κ)=some (.e e)→∀b,e.foot γ' w' κ b↔e.foot γ w κ b:=fun κ e hn he b=>by
  rw[Ent.foot_congr (old κ e he),Ent.foot_keep fun b' h1 h2=>same κ e hn he b' h2]
 refine⟨I.size,I.defers,fun t x hx=> ?_,fun κ e he=> ?_,fun κ e κ' e' he he' hne hm b hb'=> ?_,I.below.trans (hb.mono fun b _ h=>inB b h),I.top,h1,fun κ v hv=> ?_⟩
 ·rw[WP] at hx
  have:=I.slot t x hx
  exact⟨this.1.trans (SV.den_congr (fun κ hκ=>agree _ _ hx κ hκ)).symm,this.2⟩
 ·rcases Vw σ news κ _ he with⟨e1,h2,h3⟩|⟨h2,h3⟩
  ·cases h3
   exact Ent.at_mono inB (ha _ h2).1
  ·have:=I.ent κ e h3
   exact Ent.at_congr (old κ e h3) (fun κ' hκ'=>agree _ _ h3 κ' hκ') (Ent.at_keep hb.size (same κ e h2 h3) this)
 ·rcases Vw σ news κ _ he with⟨e1,h2,h3⟩|⟨h2,h3⟩
  ·cases h3
   rcases Vw σ news κ' _ he' with⟨e2,h4,h5⟩|⟨h4,h5⟩
   ·cases h5
    exact hd _ h2 _ h4 hne hm b hb'
   ·intro h6
    have hl:=(ha _ h2).2 b (Ent.reg_foot hb')
    rw[footeq κ' e' h4 h5] at h6
    exact still κ' e' h4 h5 b h6 hl
  ·rw[Ent.reg_congr (old κ e h3),Ent.reg_keep fun b' _ h2'=>same κ e h2 h3 b' h2'] at hb'
   rcases Vw σ news κ' _ he' with⟨e2,h4,h5⟩|⟨h4,h5⟩
   ·cases h5
    intro h6
    have hl:=(ha _ h4).2 b h6
    exact still κ e h2 h3 b (Ent.reg_foot hb') hl
   ·rw[footeq κ' e' h4 h5]
    exact I.apart κ e κ' e' h3 h5 hne hm b hb'
 ·obtain⟨g1,g2⟩:=I.fixed κ v hv
  refine⟨(hg κ fun p hp e=> ?_).trans g1,g2⟩
  rcases hf p hp with h|h
  ·have:=h.2.2
   omega
  ·exact e▸h
theorem Inv.news (I:Inv B N w0 γ σ a w) {γ':Nat→Value} {news:List (Nat×Ent)} {w':World} (use:Nat→Prop)
  (hf:∀p∈news,NoKey p.1 σ∨use p.1) (hu:∀κ,use κ→(∃p∈news,p.1=κ)∧∃e,σ (.h κ)=some (.e e)∧e.mut=true)
  (hg:∀κ,(∀p∈news,p.1=κ→use κ)→γ' κ=γ κ) (h1:∀κ,(γ' κ).oneCell'=true) (hb:BelowX (Yk γ w use) w w')
  (ha:∀p∈news,p.2.at (Yk γ w use) γ' w' p.1∧∀b,p.2.foot γ' w' p.1 b→Yk γ w use b)
  (hd:YQ γ' w' news):Inv B N w0 γ' (Wl σ news) a w':=by
 have up:∀b,Yk γ w use b→YM σ γ w use b:=fun b h=>by
  rcases h with h|⟨κ,h,hb⟩
  ·exact .inl h
  ·obtain⟨_,e,he,hm⟩:=hu κ h
   exact .inr ⟨κ,e,h,he,Ent.main_reg hm (I.ent κ e he) hb⟩
 exact I.newsR use hf hu hg h1 (hb.mono fun b _ h=>up b h) (fun p hp=>⟨Ent.at_mono up (ha p hp).1,fun b h=>up b ((ha p hp).2 b h)⟩) hd
theorem Yy {γ:Nat→Value} (h:∀κ,(γ κ).oneCell'=true) {κ:Nat} {v:Value} (hv:v.oneCell'=true):∀x,((fun x=>if x=κ then v else γ x) x).oneCell'=true:=by
 intro x
 show (if x=κ then v else γ x).oneCell'=true
 split
 ·exact hv
 ·exact h x
theorem Inv.fresh (I:Inv B N w0 γ σ a w) {κ:Nat} {e:Ent} {v:Value} {w':World} (hf:NoKey κ σ) (hv:v.oneCell'=true) (hb:BelowX (fun b=>w.heap.size≤b) w w')
  (ha:e.at (fun b=>w.heap.size≤b) (fun x=>if x=κ then v else γ x) w' κ) (hft:∀b,e.foot (fun x=>if x=κ then v else γ x) w' κ b→w.heap.size≤b):
  Inv B N w0 (fun x=>if x=κ then v else γ x) (Wl σ [(κ,e)]) a w':=by
 refine I.news (fun _=>False) (by intro p hp;simp only[List.mem_singleton] at hp;subst hp;exact .inl hf) (by simp) (fun κ' h=> ?_) (Yy I.cell1 hv) (hb.mono fun b _ h=> .inl h) ?_ ?_
 ·have:κ'≠κ:=fun e'=>h (κ,e) (by simp) e'.symm
  simp[this]
 ·intro p hp
  simp only[List.mem_singleton] at hp
  subst hp
  exact⟨Ent.at_mono (fun b h=> .inl h) ha,fun b h=> .inl (hft b h)⟩
 ·intro p hp q hq hne
  simp only[List.mem_singleton] at hp hq
  subst hp;subst hq
  exact absurd rfl hne
theorem Inv.alloc (I:Inv B N w0 γ σ a w) {κ:Nat} {t:TypeId} {l:List Leaf} (hf:NoKey κ σ) (hl:∀x∈l,x.ok) (hk:∀x∈l,κ∉x.keys):
  Inv B N w0 (fun x=>if x=κ then .pointer (some ⟨w.heap.size,0,none⟩) else γ x) (Wl σ [(κ,.blk t l)]) a (w.alloc (.cells (Jq γ l).toArray t)):=by
 have hc:Jq (fun x=>if x=κ then .pointer (some ⟨w.heap.size,0,none⟩) else γ x) l=Jq γ l:=Yj fun x hx κ' hκ'=>by
  have:κ'≠κ:=fun e=>hk x hx (e▸hκ')
  exact if_neg this
 refine I.fresh hf rfl ⟨rfl,rfl,rfl,by simp,fun k hk _=>heap_alloc_old w _ k hk⟩ ⟨w.heap.size,by simp,Nat.le_refl _,?_,hl⟩ (by simp[Ent.foot,Jw])
 rw[hc]
 exact heap_alloc_new w _
theorem Inv.turn (I:Inv B N w0 γ σ a w) {κ b:Nat} {e e':Ent} {w':World} (hk:σ (.h κ)=some (.e e)) (hm:e.mut=true) (hb:Jw (γ κ)=some b)
  (hw:BelowX (fun k=>k=b) w w') (ha:e'.at (fun k=>k=b) γ w' κ) (hft:∀k,e'.foot γ w' κ k→k=b):Inv B N w0 γ (Wl σ [(κ,e')]) a w':=by
 have ht:∀k,k=b→Yk γ w (fun x=>x=κ) k:=fun k h=> .inr ⟨κ,rfl,h▸hb⟩
 refine I.news (fun x=>x=κ) (by simp) (by intro x hx;cases hx;exact⟨⟨(κ,e'),by simp,rfl⟩,e,hk,hm⟩) (fun _ _=>rfl) I.cell1 (hw.mono fun k _ h=>ht k h) ?_ ?_
 ·intro p hp
  simp only[List.mem_singleton] at hp
  subst hp
  exact⟨Ent.at_mono ht ha,fun k h=>ht k (hft k h)⟩
 ·intro p hp q hq hne
  simp only[List.mem_singleton] at hp hq
  subst hp;subst hq
  exact absurd rfl hne
theorem Inv.store (I:Inv B N w0 γ σ a w) {κ b:Nat} {t:TypeId} {l l':List Leaf} (hk:σ (.h κ)=some (.e (.blk t l))) (hb:γ κ= .pointer (some ⟨b,0,none⟩)) (hl:∀x∈l',x.ok):
  Inv B N w0 γ (Wl σ [(κ,.blk t l')]) a (w.setRow b (Jq γ l').toArray):=by
 obtain⟨b',h1,h2,h3,h4⟩:=I.ent κ _ hk
 have:b'=b:=by rw[hb] at h1;simpa using h1.symm
 subst this
 exact I.turn hk rfl (by simp[hb,Jw]) ⟨rfl,rfl,rfl,by simp,fun k _ hn=>setRow_other w b' k _ hn⟩ ⟨b',hb,rfl,setRow_heap w b' _ _ t _ h3,hl⟩
  (by intro k hk;simp[Ent.foot,hb,Jw] at hk;exact hk.symm)
theorem Inv.alias (I:Inv B N w0 γ σ a w) {κ:Nat} {e:Ent} {v:Value} (hf:NoKey κ σ) (hv:v.oneCell'=true) (hm:e.mut=false)
  (ha:e.at B (fun x=>if x=κ then v else γ x) w κ)
  (hft:∀b,e.foot (fun x=>if x=κ then v else γ x) w κ b→∃κ1 e1,σ (.h κ1)=some (.e e1)∧e1.foot γ w κ1 b∧(e1.mut=true→¬e1.reg γ w κ1 b)):
  Inv B N w0 (fun x=>if x=κ then v else γ x) (Wl σ [(κ,e)]) a w:=by
 have agree:∀l c,σ l=some c→∀κ'∈c.keys,(if κ'=κ then v else γ κ')=γ κ':=fun l c hc κ' hκ=>if_neg fun e'=>hf.2.1 l c hc (by rw[←e'];exact hκ)
 have old:∀κ' e',σ (.h κ')=some (.e e')→(if κ'=κ then v else γ κ')=γ κ':=fun κ' e' he=>if_neg fun e1=>by
  have:=hf.1
  rw[←e1,he] at this
  cases this
 refine⟨I.size,I.defers,fun t x hx=> ?_,fun κ' e' he=> ?_,fun κ1 e1 κ2 e2 he1 he2 hne hm1 b hb'=> ?_,I.below,I.top,Yy I.cell1 hv,fun κ' u hu=> ?_⟩
 ·rw[WP] at hx
  have:=I.slot t x hx
  exact⟨this.1.trans (SV.den_congr (fun κ hκ=>agree _ _ hx κ hκ)).symm,this.2⟩
 ·rcases Vw σ _ κ' _ he with⟨e1,h2,h3⟩|⟨h2,h3⟩
  ·cases h3
   simp only[List.mem_singleton,Prod.mk.injEq] at h2
   obtain⟨rfl,rfl⟩:=h2
   exact ha
  ·exact Ent.at_congr (old κ' e' h3) (fun κ' hκ'=>agree _ _ h3 κ' hκ') (I.ent κ' e' h3)
 ·rcases Vw σ _ κ1 _ he1 with⟨x1,h2,h3⟩|⟨h2,h3⟩
  ·cases h3
   simp only[List.mem_singleton,Prod.mk.injEq] at h2
   obtain⟨rfl,rfl⟩:=h2
   rw[hm] at hm1;cases hm1
  ·replace hb':e1.reg γ w κ1 b:=(Ent.reg_congr (old κ1 e1 h3) b).1 hb'
   rcases Vw σ _ κ2 _ he2 with⟨x2,h4,h5⟩|⟨h4,h5⟩
   ·cases h5
    simp only[List.mem_singleton,Prod.mk.injEq] at h4
    obtain⟨rfl,rfl⟩:=h4
    intro h6
    obtain⟨κ3,e3,g1,g2,g3⟩:=hft b h6
    by_cases h7:κ1=κ3
    ·subst h7
     rw[h3] at g1;cases g1
     exact g3 hm1 hb'
    ·exact I.apart κ1 e1 κ3 e3 h3 g1 h7 hm1 b hb' g2
   ·rw[Ent.foot_congr (old κ2 e2 h5)]
    exact I.apart κ1 e1 κ2 e2 h3 h5 hne hm1 b hb'
 ·obtain⟨g1,g2⟩:=I.fixed κ' u hu
  have:=hf.2.2
  exact⟨(if_neg (by omega)).trans g1,g2⟩
theorem Inv.drop (I:Inv B N w0 γ σ a w) (κ:Nat):Inv B N w0 γ (Wl σ [(κ,.dead)]) a w:=by
 have pick:∀κ1 e1,Wl σ [(κ,.dead)] (.h κ1)=some (.e e1)→e1= .dead∨σ (.h κ1)=some (.e e1):=fun κ1 e1 he1=>by
  rcases Vw σ _ κ1 _ he1 with⟨e2,h5,h6⟩|⟨h5,h6⟩
  ·cases h6
   simp only[List.mem_singleton,Prod.mk.injEq] at h5
   exact .inl h5.2
  ·exact .inr h6
 refine⟨I.size,I.defers,fun t x hx=>I.slot t x (by rwa [WP] at hx),fun κ' e he=> ?_,fun κ1 e1 κ2 e2 he1 he2 hne hm b hb=> ?_,I.below,I.top,I.cell1,I.fixed⟩
 ·rcases pick κ' e he with rfl|h
  ·trivial
  ·exact I.ent κ' e h
 ·rcases pick κ1 e1 he1 with rfl|h1
  ·cases hm
  ·rcases pick κ2 e2 he2 with rfl|h2
   ·exact id
   ·exact I.apart κ1 e1 κ2 e2 h1 h2 hne hm b hb
theorem Inv.put (I:Inv B N w0 γ σ a w) {d:Nat} (hd:d<N) {x:SV} (hx:x.ok):Inv B N w0 γ (JdP σ (.s d) (.v x)) (a.put (some d) (x.den γ)) w:=by
 refine⟨by simp[Act.put,I.size],I.defers,fun t y hy=> ?_,fun κ e he=>I.ent κ e (by rwa [WH _ _ (by simp)] at he),fun κ1 e1 κ2 e2 he1 he2=> ?_,I.below,I.top,I.cell1,I.fixed⟩
 ·by_cases ht:d=t
  ·subst ht
   rw[XU] at hy
   simp only[Option.some.injEq,Cont.v.injEq] at hy
   subst hy
   have hlt:d<a.tmps.size:=by rw[I.size];exact hd
   exact⟨by simp[Act.put,hlt],hx⟩
  ·rw[WH _ _ (by simp[ht])] at hy
   have:=I.slot t y hy
   refine⟨?_,this.2⟩
   rw[←this.1]
   simp[Act.put,Array.getElem?_setIfInBounds_ne ht]
 ·rw[WH _ _ (by simp)] at he1 he2
  exact I.apart κ1 e1 κ2 e2 he1 he2
theorem Inv.news2 (I:Inv B N w0 γ σ a w) {γ':Nat→Value} {news:List (Nat×Ent)} {w':World} (use:Nat→Prop)
  (hf:∀p∈news,NoKey p.1 σ∨use p.1) (hu:∀κ,use κ→(∃p∈news,p.1=κ)∧∃e,σ (.h κ)=some (.e e)∧e.mut=true)
  (hg:∀κ,(∀p∈news,p.1=κ→use κ)→γ' κ=γ κ) (h1:∀κ,(γ' κ).oneCell'=true) (hb:BelowX (Yk γ w use) w w')
  (ha:∀p∈news,p.2.at B γ' w' p.1∧(p.2.mut=true→∀b,p.2.reg γ' w' p.1 b→Yk γ w use b∨∀κ1 e1,σ (.h κ1)=some (.e e1)→(∀q∈news,q.1≠κ1)→¬e1.foot γ w κ1 b)∧
   ∀b,p.2.foot γ' w' p.1 b→Yk γ w use b∨∀κ1 e1,σ (.h κ1)=some (.e e1)→(∀q∈news,q.1≠κ1)→e1.mut=true→¬e1.reg γ w κ1 b)
  (hd:YQ γ' w' news):Inv B N w0 γ' (Wl σ news) a w':=by
 have agree:∀l c,σ l=some c→∀κ∈c.keys,γ' κ=γ κ:=fun l c hc κ hκ=>hg κ fun p hp e=>by
  rcases hf p hp with h|h
  ·exact absurd (e▸hκ) (h.2.1 l c hc)
  ·exact e▸h
 have old:∀κ e,σ (.h κ)=some (.e e)→γ' κ=γ κ:=fun κ e he=>hg κ fun p hp e'=>by
  rcases hf p hp with h|h
  ·have:=h.1
   rw[e',he] at this
   cases this
  ·exact e'▸h
 have inB:∀b,Yk γ w use b→B b:=fun b h=>by
  rcases h with h|⟨κ,h,hb⟩
  ·exact I.top b (Nat.le_trans I.below.size h)
  ·obtain⟨_,e,he,hm⟩:=hu κ h
   exact Ent.reg_in (I.ent κ e he) (Ent.main_reg hm (I.ent κ e he) hb)
 have still:∀κ e,(∀p∈news,p.1≠κ)→σ (.h κ)=some (.e e)→∀b,e.foot γ w κ b→¬Yk γ w use b:=fun κ e hn he b hb ht=>by
  rcases ht with h|⟨κ1,h,hb1⟩
  ·have:=Ent.foot_lt (I.ent κ e he) b hb
   omega
  ·obtain⟨⟨p,hp,hpe⟩,e1,he1,hm1⟩:=hu κ1 h
   exact I.apart κ1 e1 κ e he1 he (fun e=>hn p hp (hpe.trans e)) hm1 b (Ent.main_reg hm1 (I.ent κ1 e1 he1) hb1) hb
 have same:∀κ e,(∀p∈news,p.1≠κ)→σ (.h κ)=some (.e e)→∀b,e.foot γ w κ b→w'.heap[b]? =w.heap[b]? :=fun κ e hn he b hb'=>
  hb.block b (Ent.foot_lt (I.ent κ e he) b hb') (still κ e hn he b hb')
 have footeq:∀κ e,(∀p∈news,p.1≠κ)→σ (.h κ)=some (.e e)→∀b,e.foot γ' w' κ b↔e.foot γ w κ b:=fun κ e hn he b=>by
  rw[Ent.foot_congr (old κ e he),Ent.foot_keep fun b' h1 h2=>same κ e hn he b' h2]
 refine⟨I.size,I.defers,fun t x hx=> ?_,fun κ e he=> ?_,fun κ e κ' e' he he' hne hm b hb'=> ?_,I.below.trans (hb.mono fun b _ h=>inB b h),I.top,h1,fun κ v hv=> ?_⟩
 ·rw[WP] at hx
  have:=I.slot t x hx
  exact⟨this.1.trans (SV.den_congr (fun κ hκ=>agree _ _ hx κ hκ)).symm,this.2⟩
 ·rcases Vw σ news κ _ he with⟨e1,h2,h3⟩|⟨h2,h3⟩
  ·cases h3
   exact(ha _ h2).1
  ·have:=I.ent κ e h3
   exact Ent.at_congr (old κ e h3) (fun κ' hκ'=>agree _ _ h3 κ' hκ') (Ent.at_keep hb.size (same κ e h2 h3) this)
 ·rcases Vw σ news κ _ he with⟨e1,h2,h3⟩|⟨h2,h3⟩
  ·cases h3
   rcases Vw σ news κ' _ he' with⟨e2,h4,h5⟩|⟨h4,h5⟩
   ·cases h5
    exact hd _ h2 _ h4 hne hm b hb'
   ·intro h6
    rw[footeq κ' e' h4 h5] at h6
    rcases(ha _ h2).2.1 hm b hb' with hl|hl
    ·exact still κ' e' h4 h5 b h6 hl
    ·exact hl κ' e' h5 h4 h6
  ·rw[Ent.reg_congr (old κ e h3),Ent.reg_keep fun b' _ h2'=>same κ e h2 h3 b' h2'] at hb'
   rcases Vw σ news κ' _ he' with⟨e2,h4,h5⟩|⟨h4,h5⟩
   ·cases h5
    intro h6
    rcases(ha _ h4).2.2 b h6 with hl|hl
    ·exact still κ e h2 h3 b (Ent.reg_foot hb') hl
    ·exact hl κ e h3 h2 hm hb'
   ·rw[footeq κ' e' h4 h5]
    exact I.apart κ e κ' e' h3 h5 hne hm b hb'
 ·obtain⟨g1,g2⟩:=I.fixed κ v hv
  refine⟨(hg κ fun p hp e=> ?_).trans g1,g2⟩
  rcases hf p hp with h|h
  ·have:=h.2.2
   omega
  ·exact e▸h
end Go.Gw

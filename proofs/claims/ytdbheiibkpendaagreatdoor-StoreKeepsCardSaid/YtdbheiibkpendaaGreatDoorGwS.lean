/- The walk's engine, part 5b: slices: cut, appended to, made. -/
import Derived.Test.YtdbheiibkpendaaGreatDoorGw5
import Derived.Laws.Slices
import Derived.Laws.Pointers
import Derived.Lib.ConvBytes
import Derived.Lib.AppendZeros
namespace Go.Gw
open Go.RowKit
variable {P:Program} {T:TypeId→Option TD} {B:Nat→Prop} {N:Nat} {w0:W0} {γ:Nat→Value} {σ:Stt} {a:Act} {w:World}
theorem JaX (d:Nat) {t e:TypeId} (ht:P.underlying t=some (.slice e)) (ad:Addr) (n c:Nat) (w:World):(Op.equalIn (d+1) t (.slice (some ad) n c) (.slice none 0 0)).run P w= .ok false w:=by
 simp[Op.equalIn,run_underlying ht]
theorem Jcd (d:Nat) {t e:TypeId} (ht:P.underlying t=some (.slice e)) (w:World):(Op.equalIn (d+1) t (.slice none 0 0) (.slice none 0 0)).run P w= .ok true w:=by
 simp[Op.equalIn,run_underlying ht]
theorem Xi {t e:TypeId} (ht:P.underlying t=some (.slice e)) (ad:Addr) (n c:Nat) (w:World):(Op.equal t (.slice (some ad) n c) (.slice none 0 0)).run P w= .ok false w:=JaX 9999 ht ad n c w
theorem XL {t e:TypeId} (ht:P.underlying t=some (.slice e)) (w:World):(Op.equal t (.slice none 0 0) (.slice none 0 0)).run P w= .ok true w:=Jcd 9999 ht w
def Bd (o:Option Value) (d m:Int):Prop:=(o=none∧m=d)∨∃k,o=some (.int k m)
theorem VT {t e:TypeId} {sz:Nat} (ht:P.underlying t=some (.slice e)) (hs:∀w,(sizeOf e).run P w= .ok sz w) {ad:Option Addr} {len cap:Nat} {lo hi:Option Value} {l h:Int}
  (hl:Bd lo 0 l) (hh:Bd hi len h) (h0:0≤l) (h1:l≤h) (h2:h≤cap) (w:World):
  (Instr.sliceAt t (.slice ad len cap) lo hi none).run P w= .ok (.slice (if cap=l.toNat then ad else ad.map (·.add (l.toNat*sz))) (h.toNat-l.toNat) (cap-l.toNat)) w:=by
 have q1:0≤h:=by omega
 have e1:max h 0=h:=Int.max_eq_left q1
 rcases hl with⟨rfl,rfl⟩|⟨k1,rfl⟩<;>rcases hh with⟨rfl,rfl⟩|⟨k2,rfl⟩
 ·simp[Instr.sliceAt,run_underlying ht,Instr.slice,Instr.sliceBounds,hs]
 ·simp[Instr.sliceAt,run_underlying ht,Instr.slice,Instr.sliceBounds,run_sliceBound_if,q1,h2,hs]
 ·simp[Instr.sliceAt,run_underlying ht,Instr.slice,Instr.sliceBounds,run_sliceBound_if,h0,h1,hs]
 ·simp[Instr.sliceAt,run_underlying ht,Instr.slice,Instr.sliceBounds,run_sliceBound_if,q1,h2,h0,h1,e1,hs]
theorem Jf7 (l:List Int) (lo hi i:Nat) (h:i<hi-lo):(((l.take hi).drop lo).getD i 0)=l.getD (lo+i) 0:=by
 simp only[List.getD,List.getElem?_drop,List.getElem?_take]
 rw[if_pos (by omega)]
theorem RdI.cut {v:Value} {k:IntKind} {l:List Int} (h:RdI w v k l) {lo hi:Nat} (h1:lo≤hi) (h2:hi≤l.length):
  ∃ad len cap,v= .slice ad len cap∧len=l.length∧l.length≤cap∧RdI w (.slice (if cap=lo then ad else ad.map (·.add (lo*1))) (hi-lo) (cap-lo)) k ((l.take hi).drop lo)∧
   ∀b,YP (.slice (if cap=lo then ad else ad.map (·.add (lo*1))) (hi-lo) (cap-lo))=some b→YP v=some b:=by
 rcases h with⟨⟨o,rfl⟩,rfl⟩|⟨a,cap,rfl,g1,g2,g3,g4,g5⟩
 ·simp only[List.length_nil,Nat.le_zero] at h2
  subst h2
  obtain rfl:lo=0:=by omega
  exact⟨o,0,0,rfl,rfl,Nat.le_refl _,.inl ⟨⟨o,by simp⟩,by simp⟩,fun b hb=>by simp[JbL] at hb⟩
 ·have hlen:((l.take hi).drop lo).length=hi-lo:=by simp;omega
  refine⟨some a,_,cap,rfl,rfl,g1,.inr ?_,?_⟩
  ·by_cases hc:cap=lo
   ·refine⟨a,cap-lo,?_,by omega,by omega,g3,g4,fun i hi'=> ?_⟩
    ·rw[if_pos hc,hlen]
    ·rw[hlen] at hi';omega
   ·refine⟨a.add (lo*1),cap-lo,?_,by omega,by omega,by rw[XD];exact g3,?_,fun i hi'=> ?_⟩
    ·rw[if_neg hc,hlen];rfl
    ·obtain⟨b,o,s⟩:=a
     simp only at g4;subst g4
     rw[Jn]
    ·rw[hlen] at hi'
     rw[YZ g4,Nat.mul_one,g5 _ (by omega),Jf7 _ _ _ _ hi']
  ·intro b hb
   by_cases hc:cap=lo
   ·rw[hc,Nat.sub_self,JbL] at hb;cases hb
   ·rw[if_neg hc] at hb
    rw[JcU (by omega)]
    have:=WO hb
    simp only[Option.map_some,Jw,XD] at this
    exact this
theorem Jga {t e:TypeId} {k2:IntKind} (hT:(TD.slice e k2).ok P t) (I:Inv B N w0 γ σ a w) {κ κ':Nat} {x:Ent} {k:IntKind} {l:List Int} {lo hi:Option Value} {m n:Int} (hk:σ (.h κ)=some (.e x)) (hm:x.mut=false)
  (hx:RdI w (γ κ) k l) (hft:∀b,YP (γ κ)=some b→x.foot γ w κ b) (hf:NoKey κ' σ) (hl:Bd lo 0 m) (hh:Bd hi l.length n) (h0:0≤m) (h1:m≤n) (h2:n≤l.length) {p:List Prop}:
  ∃v,(Instr.sliceAt t (γ κ) lo hi none).run P w= .ok v w∧Post B N w0 σ a ⟨some (.v (.one (.slc κ'))),[(κ',.rd k ((l.take n.toNat).drop m.toNat))],p⟩ v w:=by
 obtain⟨ad,len,cap,g1,g2,g3,g4,g5⟩:=hx.cut (lo:=m.toNat) (hi:=n.toNat) (by omega) (by omega)
 subst g2
 obtain⟨t1,t2,t3,t4⟩:=hT
 have hsz:∀w,(sizeOf e).run P w= .ok 1 w:=fun w=>by
  cases hq:P.info? e with
  |none=>simp[hq] at t3
  |some i=>simp[hq] at t3;simp[sizeOf,typeInfo,hq,t3.1]
 have hr:=VT (P:=P) (ad:=ad) (cap:=cap) t1 hsz hl hh h0 h1 (by omega) w
 rw[←g1] at hr
 have hv1:∀a l c,(Value.slice a l c).oneCell'=true:=fun _ _ _=>rfl
 have hv2:=hv1 (if cap=m.toNat then ad else ad.map (·.add (m.toNat*1))) (n.toNat-m.toNat) (cap-m.toNat)
 generalize Value.slice (if cap=m.toNat then ad else ad.map (·.add (m.toNat*1))) (n.toNat-m.toNat) (cap-m.toNat)=v at hr g4 g5 hv2
 refine⟨v,hr,fun x=>if x=κ' then v else γ x,by simp[SV.den,V1.den,Leaf.cells],⟨trivial,trivial⟩,I.alias hf hv2 rfl (by simpa[Ent.at] using g4) fun b hb=> ?_⟩
 have hb':YP (γ κ)=some b:=by
  refine g5 b ?_
  simpa[Ent.foot] using hb
 exact⟨κ,x,hk,hft b hb',fun h=>by rw[hm] at h;cases h⟩
theorem Jez {κ:Nat} {e:Ent} {r:RowsK} (he:Jk1 e=some r) (h:e.at B γ w κ) (hr:0<r.len):∃ad cap,γ κ= .slice (some ad) r.len cap∧ad.spot=none:=by
 have rd:RdR w (γ κ) r→∃ad cap,γ κ= .slice (some ad) r.len cap∧ad.spot=none:=fun h=>by
  rcases h with⟨_,h0⟩|⟨ad,cap,h1,_,_,_,h5,_⟩
  ·omega
  ·exact⟨ad,cap,h1,h5⟩
 cases e with
 |rows r'=>cases he;exact rd h
 |orows e r'=>cases he;exact rd h.1
 |frows e eb m r'=>
  cases he
  obtain⟨xs,x1,_⟩:=h
  rcases x1.2 with⟨_,h0⟩|⟨g,cap,cur,hv,_⟩
  ·omega
  ·exact⟨⟨g,0,none⟩,cap,hv,rfl⟩
 |_=>cases he
theorem Jid (ll:List (Int×List Int)) (n j:Nat) (d:DL) (h:(RowsK.rc (ll.take n)).cells[j]? =some d):(RowsK.rc ll).cells[j]? =some d:=by
 simp only[RowsK.cells] at*
 conv=>lhs;rw[←List.take_append_drop n ll,List.flatMap_append]
 rw[List.getElem?_append_left]
 ·exact h
 ·rcases Nat.lt_or_ge j ((ll.take n).flatMap fun r=>[DL.int .i64 r.1,.bytes .u8 r.2]).length with h'|h'
  ·exact h'
  ·rw[List.getElem?_eq_none h'] at h;cases h
theorem Jgt {t e:TypeId} {sz:Nat} (hT:(TD.sliceR e sz).ok P t) (I:Inv B N w0 γ σ a w) {κ κ':Nat} {ll:List (Int×List Int)} {hi:Option Value} {n:Int} (hk:σ (.h κ)=some (.e (.rows (.rc ll))))
  (hf:NoKey κ' σ) (hh:Bd hi ll.length n) (h1:0≤n) (h2:n≤ll.length) {p:List Prop}:
  ∃v,(Instr.sliceAt t (γ κ) none hi none).run P w= .ok v w∧Post B N w0 σ a ⟨some (.v (.one (.slc κ'))),[(κ',.rows (.rc (ll.take n.toNat)))],p⟩ v w:=by
 obtain⟨t1,t2,t3⟩:=hT
 have hsz:∀w,(sizeOf e).run P w= .ok sz w:=Vz t2
 have hr0:RdR w (γ κ) (.rc ll):=I.ent κ _ hk
 have hlen:(ll.take n.toNat).length=n.toNat:=by simp;omega
 have fin:∀v:Value,v.oneCell'=true→RdR w v (.rc (ll.take n.toNat))→(∀b,Jw v=some b∨Inner w v (n.toNat*2) b→Jw (γ κ)=some b∨Inner w (γ κ) (ll.length*2) b)→
   Post B N w0 σ a ⟨some (.v (.one (.slc κ'))),[(κ',.rows (.rc (ll.take n.toNat)))],p⟩ v w:=fun v hv h3 h4=>
  ⟨fun x=>if x=κ' then v else γ x,by simp[SV.den,V1.den,Leaf.cells],⟨trivial,trivial⟩,I.alias hf hv rfl (by simpa[Ent.at] using h3) fun b hb=>
   ⟨κ,_,hk,h4 b (by simpa[Ent.foot,RowsK.len,RowsK.sz,Nat.min_eq_left (show n.toNat≤ll.length by omega)] using hb),fun h=>by cases h⟩⟩
 rcases hr0 with⟨hv,h0⟩|⟨ad,cap,hv,g1,g2,g3,g4,g5⟩
 ·have:ll=[]:=List.length_eq_zero_iff.1 h0
  subst this
  have hn:n=0:=by simp at h2;omega
  subst hn
  refine⟨_,by rw[hv];exact VT (P:=P) (ad:=none) (len:=0) (cap:=0) t1 hsz (.inl ⟨rfl,rfl⟩) hh (Int.le_refl 0) (Int.le_refl 0) (Int.le_refl 0) w,fin _ rfl (.inl ⟨rfl,rfl⟩) fun b hb=> ?_⟩
  rcases hb with hb|⟨_,_,_,_,_,hb,_⟩
  ·simp[Jw] at hb
  ·simp at hb
 ·have hlc:(RowsK.rc ll).len=ll.length:=rfl
  have e:(if cap=(0:Int).toNat then some ad else(some ad).map (·.add ((0:Int).toNat*sz)))=some ad:=by
   obtain⟨b0,o0,s0⟩:=ad
   simp only at g4;subst g4
   split
   ·rfl
   ·simp[Jn]
  have hr:=VT (P:=P) (ad:=some ad) (len:=ll.length) (cap:=cap) t1 hsz (.inl ⟨rfl,rfl⟩) hh (Int.le_refl 0) h1 (by rw[hlc] at g1;omega) w
  rw[e] at hr
  refine⟨_,by rw[hv];exact hr,fin _ rfl (.inr ⟨ad,cap,?_,?_,g2,g3,g4,fun j d hd=>g5 j d (Jid ll n.toNat j d hd)⟩) fun b hb=> ?_⟩
  ·simp[RowsK.len,Nat.min_eq_left (show n.toNat≤ll.length by omega)]
  ·rw[hlc] at g1;simp only[RowsK.len,hlen];omega
  ·rcases hb with hb|⟨a',len,cap',j,u,q1,q2,q3,q4⟩
   ·left;rw[hv];exact hb
   ·right
    simp only[Value.slice.injEq,Option.some.injEq] at q1
    obtain⟨rfl,_,_⟩:=q1
    exact⟨ad,_,_,j,u,hv,by omega,q3,q4⟩
theorem WR (I:Inv B N w0 γ σ a w) {κ κ':Nat} {x e':Ent} {v:Value} {w':World} (hk:σ (.h κ)=some (.e x)) (hm:x.mut=true) (hf:NoKey κ' σ) (hv:v.oneCell'=true)
  (hw:BelowX (fun b=>w.heap.size≤b∨Jw (γ κ)=some b) w w') (ha:e'.at (fun b=>w.heap.size≤b∨Jw (γ κ)=some b) (fun x=>if x=κ' then v else γ x) w' κ')
  (hft:∀b,e'.foot (fun x=>if x=κ' then v else γ x) w' κ' b→w.heap.size≤b∨Jw (γ κ)=some b):
  Inv B N w0 (fun x=>if x=κ' then v else γ x) (Wl σ [(κ',e'),(κ,.dead)]) a w':=by
 have hne:κ≠κ':=fun e=>by subst e;rw[hf.1] at hk;cases hk
 have tch:∀b,(w.heap.size≤b∨Jw (γ κ)=some b)→Yk γ w (fun x=>x=κ) b:=fun b hb=>hb.imp id fun hb=>⟨κ,rfl,hb⟩
 refine I.news (fun x=>x=κ) (fun p hp=> ?_) (by intro x hx;cases hx;exact⟨⟨(κ,.dead),by simp,rfl⟩,_,hk,hm⟩) (fun x hx=> ?_) (Yy I.cell1 hv) (hw.mono fun b _ h=>tch b h) (fun p hp=> ?_) (fun p hp q hq hpq=> ?_)
 ·simp only[List.mem_cons,List.not_mem_nil,or_false] at hp
  rcases hp with rfl|rfl
  ·exact .inl hf
  ·exact .inr rfl
 ·have:x≠κ':=fun e=>absurd (hx (κ',e') (by simp) e.symm) (fun e'=>hne (e'.symm.trans e))
  simp[this]
 ·simp only[List.mem_cons,List.not_mem_nil,or_false] at hp
  rcases hp with rfl|rfl
  ·exact⟨Ent.at_mono tch ha,fun b hb=>tch b (hft b hb)⟩
  ·exact⟨trivial,fun b hb=>hb.elim⟩
 ·simp only[List.mem_cons,List.not_mem_nil,or_false] at hp hq
  rcases hp with rfl|rfl<;>rcases hq with rfl|rfl
  ·exact absurd rfl hpq
  ·exact fun _ _ _ h=>h
  ·intro h;cases h
  ·exact absurd rfl hpq
theorem Jhe {v:Value} {b:Nat} (h:v.ownBlock=some b):Jw v=some b:=by
 unfold Value.ownBlock at h
 split at h
 ·exact h
 ·cases h
theorem Jk9 {w:World} {e:TypeId} {sz n:Nat} {v:Value} {xs:List Value} (h:w.ownsRow 0 e sz v n xs):v.ownBlock=Jw v:=by
 rcases h.2 with⟨rfl,_⟩|⟨g,cap,cur,rfl,_⟩<;>rfl
theorem JhO {t e2:TypeId} {k2:IntKind} (hT:(TD.slice e2 k2).ok P t) (I:Inv B N w0 γ σ a w) {κ κ':Nat} {e:TypeId} {k:IntKind} {l:List Int} {hi:Option Value} {n:Int} (hk:σ (.h κ)=some (.e (.own e k l)))
  (hf:NoKey κ' σ) (hh:Bd hi l.length n) (h1:0≤n) (h2:n≤l.length) {p:List Prop}:
  ∃v,(Instr.sliceAt t (γ κ) none hi none).run P w= .ok v w∧Post B N w0 σ a ⟨some (.v (.one (.slc κ'))),[(κ',.own e k (l.take n.toNat)),(κ,.dead)],p⟩ v w:=by
 obtain⟨t1,t2,t3,t4⟩:=hT
 have hsz:∀w,(sizeOf e2).run P w= .ok 1 w:=fun w=>by
  cases hq:P.info? e2 with
  |none=>simp[hq] at t3
  |some i=>simp[hq] at t3;simp[sizeOf,typeInfo,hq,t3.1]
 obtain⟨⟨q1,q2⟩,hB⟩:=I.ent κ _ hk
 have hne:κ≠κ':=fun e=>by subst e;rw[hf.1] at hk;cases hk
 have hv:∃v,(Instr.sliceAt t (γ κ) none hi none).run P w= .ok v w∧v.oneCell'=true∧Jw v=Jw (γ κ)∧w.ownsRow 0 e 1 v (l.take n.toNat).length ((l.take n.toNat).map (.int k)):=by
  rcases q2 with⟨hv,h0⟩|⟨g,cap,cur,hv,_,hg,hnc,hcm,hcs,htake⟩
  ·have:l=[]:=List.length_eq_zero_iff.1 h0
   subst this
   have hn:n=0:=by simp at h2;omega
   subst hn
   refine⟨_,by rw[hv];exact VT (P:=P) (ad:=none) (len:=0) (cap:=0) t1 hsz (.inl ⟨rfl,rfl⟩) hh (Int.le_refl 0) (Int.le_refl 0) (Int.le_refl 0) w,rfl,by simp[hv,Jw],?_⟩
   simpa using World.ownsRow_nil w 0 e 1
  ·refine⟨_,by rw[hv];exact VT (P:=P) (ad:=some ⟨g,0,none⟩) (len:=l.length) (cap:=cap) t1 hsz (.inl ⟨rfl,rfl⟩) hh (Int.le_refl 0) h1 (by omega) w,rfl,?_,?_⟩
   ·have e:(if cap=(0:Int).toNat then(some (⟨g,0,none⟩:Addr)) else(some (⟨g,0,none⟩:Addr)).map (·.add ((0:Int).toNat*1)))=some ⟨g,0,none⟩:=by
     split
     ·rfl
     ·simp[Jn]
    rw[hv,e]
    rfl
   ·have hlen:(l.take n.toNat).length=n.toNat:=by simp;omega
    refine⟨by simp,.inr ⟨g,cap,cur,?_,Nat.zero_le _,hg,by rw[hlen];omega,hcm,hcs,?_⟩⟩
    ·rw[hlen]
     simp only[Int.toNat_zero,Nat.sub_zero,Nat.zero_mul,Option.map_some,Jn,Nat.add_zero]
     split<;>rfl
    ·rw[hlen,Nat.mul_one]
     rw[Nat.mul_one] at htake
     have:=congrArg (List.take n.toNat) htake
     rw[List.take_take,Nat.min_eq_left (by omega),←List.map_take] at this
     exact this
 obtain⟨v,hr,hv1,hvb,ho⟩:=hv
 have tch:∀b,Jw v=some b→w.heap.size≤b∨Jw (γ κ)=some b:=fun b hb=> .inr (by rw[←hvb];exact hb)
 exact⟨v,hr,fun x=>if x=κ' then v else γ x,by simp[SV.den,V1.den,Leaf.cells],⟨trivial,trivial⟩,WR I hk rfl hf hv1 (BelowX.refl _ w) ⟨by simpa using ho,fun b hb=>tch b (by simpa using hb)⟩ fun b hb=>tch b (by simpa[Ent.foot] using hb)⟩
theorem Xq {t ty e:TypeId} {k:IntKind} (hT:(TD.slice e k).ok P t) {v y:Value} {l l2:List Int} (ho:w.ownsRow 0 e 1 v l.length (l.map (.int k))) (hy:RdI w y k l2) (hlen:(l++l2).length≤Qi):
  ∃v' w',(Builtin.append_ #[t,t] ty #[v,y]).run P w= .ok v' w'∧v'.oneCell'=true∧w'.ownsRow 0 e 1 v' (l++l2).length ((l++l2).map (.int k))∧w.grownBy w' v.ownBlock∧
   (∀b,Jw v'=some b→Jw v=some b∨w.heap.size≤b):=by
 obtain⟨t1,t2,t3,t4⟩:=hT
 obtain⟨i,hi,hsz,hby,hz⟩:∃i,P.info? e=some i∧i.size=1∧i.bytes=cst k∧i.zero=some (.int k 0):=by
  cases hq:P.info? e with
  |none=>simp[hq] at t3
  |some i=>simp[hq] at t3;exact⟨i,rfl,t3⟩
 have hk8:cst k≤8:=by cases k<;>simp[cst]
 have hlen':l.length+l2.length≤17592186044416:=by simpa[Qi] using hlen
 have h63:l.length+l2.length≤maxLen:=by simp only[maxLen];omega
 have hbytes:(l.length+l2.length)*cst k≤140737488355328:=by
  have:=Nat.mul_le_mul hlen' hk8
  omega
 have one:∀{v:Value} {n:Nat} {xs:List Value} {w:World},w.ownsRow 0 e 1 v n xs→v.oneCell'=true:=fun h=>by
  rcases h.2 with⟨rfl,_⟩|⟨g,cap,cur,rfl,_⟩<;>rfl
 rcases hy.two with⟨rfl,rfl⟩|⟨ad,cap2,rfl,g5⟩
 ·refine⟨v,w,run_append_owned_none w 0 t ty e i 1 t1 hi v _ _ ho,one ho,by simpa using ho,⟨rfl,rfl,rfl,Nat.le_refl _,fun _ _ _=>rfl⟩,fun b hb=> .inl hb⟩
 ·have hnews:∀j u,(l2.map (Value.int k))[j]? =some u→w.cell? (ad.add j)=some u:=fun j u hu=>by
   simp only[List.getElem?_map,Option.map_eq_some_iff] at hu
   obtain⟨z,hz1,rfl⟩:=hu
   have hj:j<l2.length:=by
    rcases Nat.lt_or_ge j l2.length with h'|h'
    ·exact h'
    ·rw[List.getElem?_eq_none h'] at hz1;cases hz1
   rw[g5 j hj]
   simp[List.getD,hz1]
  have h1:∀u∈l2.map (Value.int k),u.oneCell'=true:=fun u hu=>by
   obtain⟨z,_,rfl⟩:=List.mem_map.1 hu;rfl
  obtain⟨v',w',r1,r2,r3,r4⟩:=run_append_own (P:=P) w 0 t ty e i (.int k 0) 1 (cst k) t1 hi hz hsz hby rfl (by omega) v _ _ ho ad l2.length cap2 (l2.map (.int k)) (by simp) hnews h1 h63 hbytes (Nat.zero_le _)
  refine⟨v',w',r1,one r2,by simpa using r2,r3,fun b hb=> ?_⟩
  rcases ho.2 with⟨hv,h0⟩|⟨g,cap,cur,hv,_,hg,hnc,hcm,hcs,htake⟩
  ·-- of nothing: by the same law, its base the world's end
   subst hv
   have ho':w.ownsRow w.heap.size e 1 (.slice none 0 0) l.length (l.map (.int k)):=⟨ho.1,.inl ⟨rfl,h0⟩⟩
   obtain⟨v2,w2,s1,s2,_,_⟩:=run_append_own (P:=P) w w.heap.size t ty e i (.int k 0) 1 (cst k) t1 hi hz hsz hby rfl (by omega) _ _ _ ho' ad l2.length cap2 (l2.map (.int k)) (by simp) hnews h1 h63 hbytes (Nat.le_refl _)
   rw[r1] at s1
   cases s1
   right
   exact(World.ownsRow.lt s2 b (by rw[Jk9 r2];exact hb)).1
  ·subst hv
   by_cases hroom:l.length+l2.length≤cap
   ·obtain⟨w2,s1,_⟩:=run_append_fits (P:=P) w 0 t ty e i 1 t1 hi hsz g l.length cap _ ho ad l2.length cap2 (l2.map (.int k)) (by simp) hnews h1 hroom
    rw[r1] at s1
    cases s1
    exact .inl hb
   ·have holds:∀j u,(l.map (Value.int k))[j]? =some u→w.cell? ((⟨g,0,none⟩:Addr).add j)=some u:=ho.cells (g:=g) rfl
    have hr:=run_append_grow (P:=P) w t ty e i (.int k 0) t1 hi hz ⟨g,0,none⟩ l.length cap _ (by rw[hsz];exact ho.1) holds ad l2.length cap2 (l2.map (.int k)) (by rw[hsz];simp) hnews (by omega) (by simp only[maxLen] at h63;omega) (growslice_fits (by omega) (by rw[hby];exact hbytes))
    rw[r1] at hr
    cases hr
    right
    simp[Jw] at hb
    omega
theorem JgT (I:Inv B N w0 γ σ a w) {t ty e:TypeId} {k:IntKind} (hT:(TD.slice e k).ok P t) {κ κ':Nat} {l l2:List Int} {y:Value} (hk:σ (.h κ)=some (.e (.own e k l))) (hf:NoKey κ' σ)
  (hy:RdI w y k l2) (hlen:(l++l2).length≤Qi) {p:List Prop}:
  ∃v w',(Builtin.append_ #[t,t] ty #[γ κ,y]).run P w= .ok v w'∧Post B N w0 σ a ⟨some (.v (.one (.slc κ'))),[(κ',.own e k (l++l2)),(κ,.dead)],p⟩ v w':=by
 obtain⟨ho,hB⟩:=I.ent κ _ hk
 obtain⟨v',w',r1,r2,r3,r4,r5⟩:=Xq (P:=P) (t:=t) (ty:=ty) hT ho hy hlen
 have r5':∀b,Jw v'=some b→w.heap.size≤b∨Jw (γ κ)=some b:=fun b hb=>(r5 b hb).symm
 refine⟨v',w',r1,fun x=>if x=κ' then v' else γ x,by simp[SV.den,V1.den,Leaf.cells],⟨trivial,trivial⟩,WR I hk rfl hf r2 ?_ ⟨by simpa using r3,fun b hb=>r5' b (by simpa using hb)⟩ fun b hb=>r5' b (by simpa[Ent.foot] using hb)⟩
 exact⟨r4.os,r4.tape,r4.output,r4.size,fun b hb hn=>r4.block b hb fun e=>hn (.inr (Jhe e.symm))⟩
theorem Jfv (I:Inv B N w0 γ σ a w) {t ty e:TypeId} {k:IntKind} (hT:(TD.slice e k).ok P t) {κ κ':Nat} {l:List Int} (hk:σ (.h κ)=some (.e (.own e k l))) (hf:NoKey κ' σ) {p:List Prop}:
  ∃v w',(Builtin.append_ #[t,t] ty #[γ κ,.slice none 0 0]).run P w= .ok v w'∧Post B N w0 σ a ⟨some (.v (.one (.slc κ'))),[(κ',.own e k l),(κ,.dead)],p⟩ v w':=by
 obtain⟨ho,hB⟩:=I.ent κ _ hk
 obtain⟨t1,t2,t3,t4⟩:=hT
 obtain⟨i,hi⟩:∃i,P.info? e=some i:=by
  cases hq:P.info? e with
  |none=>simp[hq] at t3
  |some i=>exact⟨i,rfl⟩
 have hr:=run_append_owned_none (P:=P) w 0 t ty e i 1 t1 hi _ _ _ ho
 exact⟨_,w,hr,fun x=>if x=κ' then γ κ else γ x,by simp[SV.den,V1.den,Leaf.cells],⟨trivial,trivial⟩,WR I hk rfl hf (I.cell1 κ) (BelowX.refl _ w) ⟨by simpa using ho,fun b hb=> .inr (by simpa using hb)⟩ fun b hb=> .inr (by simpa[Ent.foot] using hb)⟩
theorem append_nil (I:Inv B N w0 γ σ a w) {t ty e:TypeId} {k:IntKind} (hT:(TD.slice e k).ok P t) {κ':Nat} {l2:List Int} {y:Value} (hf:NoKey κ' σ) (hy:RdI w y k l2) (hlen:l2.length≤Qi) {p:List Prop}:
  ∃v w',(Builtin.append_ #[t,t] ty #[.slice none 0 0,y]).run P w= .ok v w'∧Post B N w0 σ a ⟨some (.v (.one (.slc κ'))),[(κ',.own e k l2)],p⟩ v w':=by
 have ho:w.ownsRow 0 e 1 (.slice none 0 0) ([]:List Int).length (([]:List Int).map (.int k)):=World.ownsRow_nil w 0 e 1
 obtain⟨v',w',r1,r2,r3,r4,r5⟩:=Xq (P:=P) (t:=t) (ty:=ty) hT ho hy (by simpa using hlen)
 simp only[List.nil_append] at r3
 have r5':∀b,Jw v'=some b→w.heap.size≤b:=fun b hb=>by
  rcases r5 b hb with h|h
  ·simp[Jw] at h
  ·exact h
 refine⟨v',w',r1,fun x=>if x=κ' then v' else γ x,by simp[SV.den,V1.den,Leaf.cells],⟨trivial,trivial⟩,I.fresh hf r2 ?_ ⟨by simpa using r3,fun b hb=>r5' b (by simpa using hb)⟩ fun b hb=>r5' b (by simpa[Ent.foot] using hb)⟩
 exact⟨r4.os,r4.tape,r4.output,r4.size,fun b hb hn=>r4.block b hb (by simp[Value.ownBlock])⟩
theorem Jfj (I:Inv B N w0 γ σ a w) {e:TypeId} {k:IntKind} {κ':Nat} {l:List Int} {v:Value} {w':World} (hf:NoKey κ' σ) (hv:v.oneCell'=true) (ho:w'.ownsRow w.heap.size e 1 v l.length (l.map (.int k)))
  (hg:w.grownBy w' none) {p:List Prop}:Post B N w0 σ a ⟨some (.v (.one (.slc κ'))),[(κ',.own e k l)],p⟩ v w':=by
 have hb:∀b,Jw v=some b→w.heap.size≤b:=fun b hb=>(World.ownsRow.lt ho b (by
  rcases ho.2 with⟨rfl,_⟩|⟨g,cap,cur,rfl,_⟩
  ·simp[Jw] at hb
  ·exact hb)).1
 have ho':w'.ownsRow 0 e 1 v l.length (l.map (.int k)):=by
  refine⟨ho.1,?_⟩
  rcases ho.2 with h|⟨g,cap,cur,h1,_,h3⟩
  ·exact .inl h
  ·exact .inr ⟨g,cap,cur,h1,Nat.zero_le _,h3⟩
 refine⟨fun x=>if x=κ' then v else γ x,by simp[SV.den,V1.den,Leaf.cells],⟨trivial,trivial⟩,I.fresh hf hv ?_ ⟨by simpa using ho',fun b h=>hb b (by simpa using h)⟩ fun b h=>hb b (by simpa[Ent.foot] using h)⟩
 exact⟨hg.os,hg.tape,hg.output,hg.size,fun b hb hn=>hg.block b hb (by simp)⟩
theorem Jit (I:Inv B N w0 γ σ a w) {t tn ty e:TypeId} {k k1 kn:IntKind} (hT:(TD.slice e k).ok P t) (hn:(TD.int kn).ok P tn) {κ':Nat} (hf:NoKey κ' σ) {n:Int} (h0:0<n) (hle:n≤Qi) {p:List Prop}:
  ∃v w',(Builtin.append_ #[t,tn] ty #[.slice none 0 0,.int k1 n]).run P w= .ok v w'∧Post B N w0 σ a ⟨some (.v (.one (.slc κ'))),[(κ',.own e k (List.replicate n.toNat 0))],p⟩ v w':=by
 obtain⟨t1,t2,t3,t4⟩:=hT
 obtain⟨i,hi,hsz,hby,hz⟩:∃i,P.info? e=some i∧i.size=1∧i.bytes=cst k∧i.zero=some (.int k 0):=by
  cases hq:P.info? e with
  |none=>simp[hq] at t3
  |some i=>simp[hq] at t3;exact⟨i,rfl,t3⟩
 have hk8:cst k≤8:=by cases k<;>simp[cst]
 obtain⟨m,rfl⟩:=Int.eq_ofNat_of_zero_le (show 0≤n by omega)
 have hm:m≤17592186044416:=by simp only[Qi] at hle;omega
 simp only[Int.toNat_natCast]
 have hr:=Lib.run_append_nil_zeros (P:=P) w t tn ty e i (.int k 0) k1 kn t1 hn.1 hi hz m (by omega) (by omega) (by omega) (by rw[hby];have:=Nat.mul_le_mul hm hk8;omega)
 refine⟨_,_,hr,?_⟩
 have hg:∀o:Obj,w.grownBy (w.drew.alloc o) none:=fun o=>⟨rfl,rfl,rfl,by simp,fun k hk _=>heap_alloc_old w.drew o k hk⟩
 refine Jfj I hf (by rfl) ?_ (hg _)
 have hge:=grownCap_ge w m 0 e
 have hcm:=grownCap_le_maxLen w m 0 e (by simp only[maxLen];omega)
 have ez:∀q,(Builtin.zeroCells (Value.int k 0).cells q).toList=List.replicate q (.int k 0):=fun q=>by
  have:=toList_madeCells_one (.int k 0) q
  simp only[madeCells] at this
  simp only[Builtin.zeroCells,Value.cells]
  simpa using this
 refine⟨by simp,.inr ⟨w.heap.size,_,_,by simp,Nat.le_refl _,heap_alloc_new w.drew _,by simpa using hge,hcm,?_,?_⟩⟩
 ·simp only[Array.size_append,size_zeroCells,Value.cells]
  simp
  omega
 ·simp only[Array.toList_append,ez,List.length_replicate,Nat.mul_one,List.map_replicate]
  rw[List.take_append_of_le_length (by simp)]
  simp
theorem Jjc (I:Inv B N w0 γ σ a w) {t e:TypeId} {k k1 k2:IntKind} (hT:(TD.slice e k).ok P t) {κ':Nat} (hf:NoKey κ' σ) {n:Int} (h0:0≤n) (hn:n≤Qi) {p:List Prop}:
  ∃v w',(Instr.makeSlice t (.int k1 n) (.int k2 n)).run P w= .ok v w'∧Post B N w0 σ a ⟨some (.v (.one (.slc κ'))),[(κ',.own e k (List.replicate n.toNat 0))],p⟩ v w':=by
 obtain⟨t1,t2,t3,t4⟩:=hT
 obtain⟨i,hi,hsz,hby,hz⟩:∃i,P.info? e=some i∧i.size=1∧i.bytes=cst k∧i.zero=some (.int k 0):=by
  cases hq:P.info? e with
  |none=>simp[hq] at t3
  |some i=>simp[hq] at t3;exact⟨i,rfl,t3⟩
 have hk8:cst k≤8:=by cases k<;>simp[cst]
 have hn':n.toNat≤17592186044416:=by simp only[Qi] at hn;omega
 obtain⟨m,rfl⟩:=Int.eq_ofNat_of_zero_le h0
 simp only[Int.toNat_natCast] at hn' ⊢
 obtain⟨w',r1,r2,r3⟩:=run_make_full (P:=P) w w.heap.size t e i (.int k 0) 1 t1 hi hz hsz k1 k2 m (by rw[hby];have:=Nat.mul_le_mul hk8 hn';omega) (by simp only[maxLen];omega) (Nat.le_refl _)
 refine⟨_,w',r1,Jfj I hf rfl ?_ r3⟩
 have e1:(madeCells (Value.int k 0).cells (m*1)).toList=(List.replicate m 0).map (Value.int k):=by
  simp only[Value.cells,Nat.mul_one,toList_madeCells_one,List.map_replicate]
 rw[e1] at r2
 simpa using r2
theorem Jil (I:Inv B N w0 γ σ a w) {t e:TypeId} {k:IntKind} (hT:(TD.slice e k).ok P t) {κ':Nat} (hf:NoKey κ' σ) {n:Nat} (hn:n≤16777216) {ps:List (Nat×Operand)} {l:List Int}
  (hp:∀q∈ps,q.1<n) (hl:JaT k ps (Jg σ) (List.replicate n 0)=some l) {p:List Prop}:
  ∃v w',(Instr.buildSlice t n (ps.map fun q=>(q.1,a.eval q.2)).toArray).run P w= .ok v w'∧Post B N w0 σ a ⟨some (.v (.one (.slc κ'))),[(κ',.own e k l)],p⟩ v w':=by
 obtain⟨t1,t2,t3,t4⟩:=hT
 obtain⟨i,hi,hsz,hby,hz⟩:∃i,P.info? e=some i∧i.size=1∧i.bytes=cst k∧i.zero=some (.int k 0):=by
  cases hq:P.info? e with
  |none=>simp[hq] at t3
  |some i=>simp[hq] at t3;exact⟨i,rfl,t3⟩
 obtain⟨g1,g2⟩:=Jb8 I n ps (List.replicate n 0) l (by simp) hp hl
 have e0:∀z:Array Value,(n=0∨z= #[.int k 0])→(Array.range (n*1)).map (z[·%z.size]!)=((List.replicate n 0).map (Value.int k)).toArray:=by
  intro z hz
  rcases hz with rfl|rfl
  ·simp[Array.range_zero']
  ·have:=toList_madeCells_one (.int k 0) n
   simp only[madeCells] at this
   rw[Nat.mul_one,←Array.toList_inj]
   rw[this]
   simp
 have hr:(Instr.buildSlice t n (ps.map fun q=>(q.1,a.eval q.2)).toArray).run P w= .ok (.slice (some ⟨w.heap.size,0,none⟩) n n) (w.alloc (.cells (l.map (Value.int k)).toArray e)):=by
  have h24:¬(n*1>2^24):=by omega
  have hz':∀w,(zeroValue e).run P w= .ok (.int k 0) w:=fun w=>by simp[zeroValue,typeInfo,hi,hz]
  have hs':∀w,(sizeOf e).run P w= .ok 1 w:=fun w=>by simp[sizeOf,typeInfo,hi,hsz]
  unfold Instr.buildSlice
  simp only[Sem.run_bind,run_underlying t1,Result.andThen_ok,hs',if_neg h24]
  by_cases hn0:n=0
  ·have ez:=e0 #[] (.inl hn0)
   simp only[if_pos (show n*1=0 by omega),Sem.run_bind,Sem.run_pure,Result.andThen_ok,ez,g1]
   simp[newRow]
  ·have ez:=e0 #[.int k 0] (.inr rfl)
   simp only[if_neg (show ¬n*1=0 by omega),Sem.run_bind,hz',Sem.run_pure,Result.andThen_ok,Value.cells,ez,g1]
   simp[newRow]
 refine⟨_,_,hr,Jfj I hf rfl ?_ (World.grownBy_alloc w _ none)⟩
 have:=World.ownsRow_lit (base:=w.heap.size) (e:=e) (size:=1) w (l.map (Value.int k)).toArray n (Nat.le_refl _) (by simp only[maxLen];omega) (by simp[g2])
 rw[g2]
 simpa using this
theorem Jlf (I:Inv B N w0 γ σ a w) {src dst e:TypeId} (hs:TD.str.ok P src) (hd:(TD.slice e .u8).ok P dst) {κ':Nat} (hf:NoKey κ' σ) {s:ByteArray} (hn:s.size≤Qi) {p:List Prop}:
  ∃v w',(convert src dst (.string s)).run P w= .ok v w'∧Post B N w0 σ a ⟨some (.v (.one (.slc κ'))),[(κ',.rd .u8 (s.data.toList.map fun b=>(b.toNat:Int)))],p⟩ v w':=by
 have hr:=Lib.run_convert_string_bytes (P:=P) w src dst e s hs.1 hd.1 hd.2.1
 refine⟨_,_,hr,_,?_,⟨trivial,trivial⟩,I.fresh (v:= .slice (some ⟨w.heap.size,0,none⟩) s.size (grownCap w s.size 0 e)) hf rfl ?_ ?_ ?_⟩
 ·simp[SV.den,V1.den,Leaf.cells]
 ·exact⟨rfl,rfl,rfl,by rw[Lib.bytesWorld_size];omega,fun j hj _=>Lib.bytesWorld_at_old w e s j hj⟩
 ·have hlen:(s.data.toList.map fun b=>(b.toNat:Int)).length=s.size:=by rw[List.length_map];exact Array.length_toList
  refine .inr ⟨⟨w.heap.size,0,none⟩,grownCap w s.size 0 e,by show (if κ'=κ' then _ else _)=_;rw[if_pos rfl,hlen],by rw[hlen];exact grownCap_ge _ _ _ _,grownCap_le_maxLen _ _ _ _ (by simp only[maxLen];simp only[Qi] at hn;omega),by rw[Lib.bytesWorld_size];simp,rfl,fun i hi=> ?_⟩
  rw[hlen] at hi
  rw[Jn,Nat.zero_add,Lib.bytesWorld_cell w e s i hi]
  have hd':i<s.data.toList.length:=by rw[Array.length_toList];exact hi
  simp only[List.getD,List.getElem?_map,List.getElem?_eq_getElem hd',Option.map_some,Option.getD_some]
 ·intro b hb
  simp only[Ent.foot,if_pos] at hb
  have:=WO hb
  simp[Jw] at this
  omega
theorem Jju (I:Inv B N w0 γ σ a w) {t e:TypeId} (hT:(TD.slice e .u8).ok P t) {κ κ':Nat} {e2:TypeId} {l:List Int} (hk:σ (.h κ)=some (.e (.own e2 .u8 l))) (hf:NoKey κ' σ) (hl:0<l.length) {p:List Prop}:
  ∃v w',(convert t t (γ κ)).run P w= .ok v w'∧Post B N w0 σ a ⟨some (.v (.one (.slc κ'))),[(κ',.rd .u8 l),(κ,.dead)],p⟩ v w':=by
 obtain⟨ho,hB⟩:=I.ent κ _ hk
 have hrd:=Ql ho
 rcases ho.2 with⟨_,h0⟩|⟨g,cap,cur,hv,_,hg,hnc,hcm,hcs,htake⟩
 ·omega
 ·have hlt:=(Array.getElem?_eq_some_iff.1 hg).1
  have hsh:w.shape? g=some (e2,cur.size):=by simp[World.shape?,hg]
  have hr:(convert t t (.slice (some ⟨g,0,none⟩) l.length cap)).run P w= .ok (.slice (some ⟨g,0,none⟩) l.length cap) (w.freeze ⟨g,cur.size,none⟩ 1):=by
   simp[convert,run_underlying hT.1,run_underlying hT.2.1,markStringish,hsh]
  have hnew:(w.freeze ⟨g,cur.size,none⟩ 1).heap[g]? =some (.cells cur e2 (cur.size,cur.size+1)):=by
   simp only[World.freeze]
   rw[if_neg (by decide)]
   simp[Array.getElem?_modify,hg]
  have hold:∀k,k≠g→(w.freeze ⟨g,cur.size,none⟩ 1).heap[k]? =w.heap[k]? :=fun k hk=>by
   simp only[World.freeze]
   rw[if_neg (by decide)]
   simp[Array.getElem?_modify,Ne.symm hk]
  have hs:(w.freeze ⟨g,cur.size,none⟩ 1).heap.size=w.heap.size:=by
   simp only[World.freeze]
   rw[if_neg (by decide)]
   simp
  have hrd':RdI (w.freeze ⟨g,cur.size,none⟩ 1) (.slice (some ⟨g,0,none⟩) l.length cap) .u8 l:=by
   rw[hv] at hrd
   rcases hrd with⟨⟨o,h⟩,h'⟩|⟨ad,cap',h1,h2,h3,h4,h5,h6⟩
   ·rw[h'] at hl;simp at hl
   ·cases h1
    refine .inr ⟨⟨g,0,none⟩,cap,rfl,h2,h3,by rw[hs];exact h4,rfl,fun i hi=> ?_⟩
    have:=h6 i hi
    rw[Jn,Nat.zero_add,cell_of_row w g i cur e2 (0,0) hg] at this
    rw[Jn,Nat.zero_add,cell_of_row _ g i cur e2 _ hnew]
    exact this
  refine⟨_,_,by rw[hv];exact hr,fun x=>if x=κ' then .slice (some ⟨g,0,none⟩) l.length cap else γ x,by simp[SV.den,V1.den,Leaf.cells],⟨trivial,trivial⟩,?_⟩
  refine WR I hk rfl hf rfl ⟨rfl,rfl,rfl,by rw[hs];exact Nat.le_refl _,fun k _ hn=>hold k fun e=>hn (.inr (by simp[hv,Jw,e]))⟩ (by simpa[Ent.at] using hrd') fun b hb=> .inr ?_
  simp only[Ent.foot,if_pos] at hb
  rw[hv]
  exact WO hb
end Go.Gw

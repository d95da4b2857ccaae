/- Memory that leads to memory: how it turns. -/
import Derived.Test.YtdbheiibkpendaaGreatDoorGwV
namespace Go.Gw
open Go.RowKit
variable {P:Program} {T:TypeId→Option TD} {B:Nat→Prop} {N:Nat} {w0:W0} {γ:Nat→Value} {σ:Stt} {a:Act} {w:World}
theorem JaF:∀{fs:List Field} {offs:List (Nat×Nat)},fs.mapM (fun f=>(P.info? f.type).map fun i=>(f.offset,i.size))=some offs→∀(f:Nat) {oo os:Nat},offs[f]? =some (oo,os)→
  ∃fl,fs[f]? =some fl∧∃i,P.info? fl.type=some i∧fl.offset=oo∧i.size=os
 |[],offs,h,f,oo,os,ho=>by simp at h;subst h;simp at ho
 | g ::fs,offs,h,f,oo,os,ho=>by
  simp only[List.mapM_cons,Option.bind_eq_bind,Option.pure_def] at h
  cases hi:P.info? g.type with
  |none=>simp[hi] at h
  | some i=>
   cases hr:fs.mapM (fun f=>(P.info? f.type).map fun i=>(f.offset,i.size)) with
   |none=>simp[hi,hr] at h
   | some rest=>
    simp[hi,hr] at h
    subst h
    cases f with
    |zero=>simp at ho;exact⟨g,rfl,i,hi,ho.1,ho.2⟩
    |succ f=>
     obtain⟨fl,h1,h2⟩:=JaF hr f (by simpa using ho)
     exact⟨fl,by simpa using h1,h2⟩
theorem RunOk.mono {s:Sem Next} {post post':Value→World→Prop} (hp:∀v w',post v w'→post' v w') (h:RunOk P s w post):RunOk P s w post':=by
 unfold RunOk at*
 generalize s.run P w=r at*
 cases r with
 | ok x w'=>
  cases x<;>first
   |exact hp _ _ h
   |exact Calls.mono h fun e w'' ⟨v,h1,h2⟩=>⟨v,h1,hp _ _ h2⟩
   |exact h
 |halt x w'=>exact h
theorem YX (l:List Value):Qg (skV l)=l:=by simp[Qg,skV]
theorem Jgi {l:List Value} {v:Value} {i:Nat} (h:i<l.length):YG (skV (l++[v])) i=YG (skV l) i:=by
 simp[YG,YX,List.getD,List.getElem?_append_left h]
theorem YS (l:List Value) (v:Value):YG (skV (l++[v])) l.length=v:=by
 simp[YG,YX,List.getD]
theorem JbC (l:List Value) (v:Value):SkPre (skV l) (skV (l++[v])):=by
 refine⟨by simp[YX],fun i hi=> ?_⟩
 rw[YX] at hi
 exact Jgi hi
theorem JaG {H:AH} {o:MO} {i:Nat} (h:i<H.length):AH.at (H++[o]) i=AH.at H i:=by
 simp[AH.at,List.getD,List.getElem?_append_left h]
theorem YH (H:AH) (o:MO):AH.at (H++[o]) H.length=o:=by simp[AH.at,List.getD]
theorem Jgo {H:AH} {o:MO} {i:Nat} (h:i<H.length):AH.at (H.set i o) i=o:=by simp[AH.at,List.getD,h]
theorem Vg {H:AH} {o:MO} {i j:Nat} (h:i≠j):AH.at (H.set i o) j=AH.at H j:=by simp[AH.at,List.getD,List.getElem?_set_ne h]
theorem Ar.skv {s:Value} {H:AH} (h:Ar w s H):s=skV (Qg s):=by
 obtain⟨l,rfl⟩:=h.enc
 rw[YX]
theorem Ar.push {w w':World} {s v:Value} {H:AH} {o:MO} (h:Ar w s H) (hk:∀b,Ve s H b→w'.heap[b]? =w.heap[b]?)
  (ho:o.at w' (skV (Qg s++[v])) v) (hob:o.bd≤H.length+1) (hd:∀b,QS v=some b→¬Ve s H b):
  Ar w' (skV (Qg s++[v])) (H++[o])∧SkPre s (skV (Qg s++[v]))∧∀b,Ve (skV (Qg s++[v])) (H++[o]) b→Ve s H b∨(o.live=true∧QS v=some b):=by
 have hs:=h.skv
 have hl:=h.len
 have old:∀i,i<H.length→YG (skV (Qg s++[v])) i=YG s i:=fun i hi=>by
  rw[Jgi (by omega),←hs]
 have new:YG (skV (Qg s++[v])) H.length=v:=by rw[←hl,YS]
 have hp:SkPre s (skV (Qg s++[v])):=by
  have:=JbC (Qg s) v
  rwa [←hs] at this
 have lt:∀i,(AH.at (H++[o]) i).live=true→i<H.length∨i=H.length:=fun i hi=>by
  have:=WN hi
  simp at this
  omega
 have foot:∀i b,(AH.at (H++[o]) i).live=true→QS (YG (skV (Qg s++[v])) i)=some b→(i<H.length∧Ve s H b)∨(i=H.length∧o.live=true∧QS v=some b):=fun i b hi hb=>by
  rcases lt i hi with h1|rfl
  ·rw[JaG h1] at hi
   rw[old i h1] at hb
   exact .inl ⟨h1,i,hi,hb⟩
  ·rw[YH] at hi
   rw[new] at hb
   exact .inr ⟨rfl,hi,hb⟩
 refine⟨⟨⟨_,rfl⟩,by simp[YX,hl],fun i hi=> ?_,fun i j b hij hi hj hb hb'=> ?_,fun i=> ?_⟩,hp,fun b hb=> ?_⟩
 ·simp at hi
  rcases Nat.lt_or_ge i H.length with h1|h1
  ·rw[JaG h1,old i h1]
   exact MO.at_pre hp (by rw[hl];exact h.bd i) (MO.at_keep (fun b hl' hb=>hk b ⟨i,hl',hb⟩) (h.obj i h1))
  ·have:i=H.length:=by omega
   subst this
   rw[YH,new]
   exact ho
 ·rcases foot i b hi hb with⟨h1,h2⟩|⟨rfl,h1,h2⟩
  ·rcases foot j b hj hb' with⟨h3,h4⟩|⟨rfl,h3,h4⟩
   ·rw[JaG h1] at hi
    rw[JaG h3] at hj
    rw[old i h1] at hb
    rw[old j h3] at hb'
    exact h.apart i j b hij hi hj hb hb'
   ·exact hd b h4 h2
  ·rcases foot j b hj hb' with⟨h3,h4⟩|⟨rfl,h3,h4⟩
   ·exact hd b h2 h4
   ·exact hij rfl
 ·rcases Nat.lt_or_ge i H.length with h1|h1
  ·rw[JaG h1]
   have:=h.bd i
   simp
   omega
  ·rcases Nat.eq_or_lt_of_le h1 with rfl|h2
   ·rw[YH]
    simpa using hob
   ·rw[Jgr (by simp;omega)]
    exact Nat.zero_le _
 ·obtain⟨i,hi,hb⟩:=hb
  rcases foot i b hi hb with⟨_,h2⟩|⟨_,h1,h2⟩
  ·exact .inl h2
  ·exact .inr ⟨h1,h2⟩
theorem Ar.set {w w':World} {s:Value} {H:AH} {i:Nat} {o:MO} (h:Ar w s H) (hi:(AH.at H i).live=true) (hk:∀b,Ve s H b→QS (YG s i)≠some b→w'.heap[b]? =w.heap[b]?)
  (ho:o.at w' s (YG s i)) (hob:o.bd≤H.length):Ar w' s (H.set i o)∧∀b,Ve s (H.set i o) b→Ve s H b:=by
 have hlt:=WN hi
 have live:∀j,(AH.at (H.set i o) j).live=true→(AH.at H j).live=true:=fun j hj=>by
  by_cases e:i=j
  ·subst e
   exact hi
  ·rwa [Vg e] at hj
 refine⟨⟨h.enc,by simp[h.len],fun j hj=> ?_,fun j k b hjk hj hk' hb hb'=>h.apart j k b hjk (live j hj) (live k hk') hb hb',fun j=> ?_⟩,fun b hb=> ?_⟩
 ·simp at hj
  by_cases e:i=j
  ·subst e
   rw[Jgo hlt]
   exact ho
  ·rw[Vg e]
   exact MO.at_keep (fun b hl' hb=>hk b ⟨j,hl',hb⟩ fun hb'=>h.apart i j b e hi hl' hb' hb) (h.obj j hj)
 ·by_cases e:i=j
  ·subst e
   rw[Jgo hlt]
   simpa using hob
  ·rw[Vg e]
   simpa using h.bd j
 ·obtain⟨j,hj,hb⟩:=hb
  exact⟨j,live j hj,hb⟩
theorem Jcz (s:Value) (v:MV):(v.den s).oneCell'=true:=by
 cases v with
 |ptr i off=>exact JeS _ _
 |slc i sz lo n=>simp only[MV.den,JcD];split<;>rfl
 |map i=>simp only[MV.den];split<;>rfl
 |_=>rfl
theorem JT (I:Inv B N w0 γ σ a w) {κ κ1:Nat} {rw':Bool} {bs:List Nat} {H:AH} {v:MV} (hk:σ (.h κ)=some (.e (.arena rw' bs H))) (h:Xp σ κ bs κ1=some v):
  γ κ1=v.den (γ κ)∧v.bd≤H.length:=by
 have go:∀(κb:Nat) (v':MV),γ κ1=v'.den (γ κb)→v'.bd≤(Qg (γ κb)).length→(bif Nat.beq κb κ||bs.any (Nat.beq κb) then some v' else none)=some v→γ κ1=v.den (γ κ)∧v.bd≤H.length:=by
  intro κb v' h1 h2 h
  cases hc:(Nat.beq κb κ||bs.any (Nat.beq κb)) with
  |false=>simp[hc] at h
  | true=>
   simp only[hc,cond_true,Option.some.injEq] at h
   subst h
   obtain⟨a1,a2,a3⟩:=I.ent _ _ hk
   have hp:SkPre (γ κb) (γ κ):=by
    simp only[Bool.or_eq_true] at hc
    rcases hc with hc|hc
    ·rw[Nat.eq_of_beq_eq_true hc];exact SkPre.refl _
    ·obtain⟨x,hx,he⟩:=List.any_eq_true.1 hc
     rw[Nat.eq_of_beq_eq_true he];exact a3 x hx
   refine⟨h1.trans (MV.den_pre hp h2).symm,?_⟩
   have:=hp.1
   have:=a1.len
   omega
 unfold Xp at h
 split at h
 ·rename_i κb v' hl
  obtain⟨h1,h2⟩:=(I.key hl).2
  exact go κb v' h1 h2 h
 ·rename_i κb v' hl
  obtain⟨h1,h2,_⟩:=(I.key hl).2
  exact go κb v' h1 h2 h
 ·cases h
theorem Jl7 (I:Inv B N w0 γ σ a w) {κ κ1:Nat} {rw':Bool} {bs:List Nat} {H:AH} {v:MV} (hk:σ (.h κ)=some (.e (.arena rw' bs H))) (h:wvS σ κ bs κ1=some v):
  v.bd≤H.length∧((γ κ1=v.den (γ κ))∨(v.len=0∧∃o c,γ κ1= .slice o 0 c)):=by
 unfold wvS at h
 split at h
 ·rename_i κb v' hl
  have:=JT I (κ1:=κ1) (v:=v) hk (by unfold Xp;rw[hl];exact h)
  exact⟨this.2,.inl this.1⟩
 ·rename_i κb v' hl
  have:=JT I (κ1:=κ1) (v:=v) hk (by unfold Xp;rw[hl];exact h)
  exact⟨this.2,.inl this.1⟩
 ·rename_i κb v' hl
  cases hc:(Nat.beq κb κ||bs.any (Nat.beq κb)) with
  |false=>simp[hc] at h
  | true=>
   simp only[hc,cond_true,Option.some.injEq] at h
   subst h
   obtain⟨a1,a2,a3⟩:=I.ent _ _ hk
   obtain⟨h1,h2⟩:=(I.key hl).2
   have hp:SkPre (γ κb) (γ κ):=by
    simp only[Bool.or_eq_true] at hc
    rcases hc with hc|hc
    ·obtain rfl:=Nat.eq_of_beq_eq_true hc;exact SkPre.refl _
    ·obtain⟨x,hx,he⟩:=List.any_eq_true.1 hc
     obtain rfl:=Nat.eq_of_beq_eq_true he
     exact a3 _ hx
   refine⟨by rw[←a1.len];exact Nat.le_trans h1 hp.1,?_⟩
   rcases h2 with⟨_,h2⟩|h2
   ·exact .inl (by rw[h2,MV.den_pre hp h1])
   ·exact .inr h2
 ·cases h
theorem Inv.aptNew (I:Inv B N w0 γ σ a w) {κ κv:Nat} {rw':Bool} {bs:List Nat} {H:AH} {v:MV} (hk:σ (.h κ)=some (.e (.arena rw' bs H))) (hf:NoKey κv σ) (hb:v.bd≤H.length):
  Inv B N w0 (fun x=>if x=κv then v.den (γ κ) else γ x) (Wl σ [(κv,.apt κ v)]) a w:=by
 have hne:κ≠κv:=fun e=>by rw[e,hf.1] at hk;cases hk
 refine I.alias hf (Jcz _ _) rfl ?_ (fun b h=>h.elim)
 obtain⟨a1,_⟩:=I.ent _ _ hk
 refine⟨?_,?_⟩
 ·simp[hne]
 ·simp only[if_neg hne]
  rw[a1.len]
  exact hb
def JbT (κ':Nat) (names:List (Nat×MV)):List (Nat×Ent):=names.map fun p=>(p.1,.apt κ' p.2)
def Jdv (s:Value) (γ:Nat→Value):List (Nat×MV)→Nat→Value
 |[],x=>γ x
 |(k,v)::r,x=>if x=k then v.den s else Jdv s γ r x
theorem JeI {s:Value} {γ:Nat→Value}:∀{l:List (Nat×MV)},(l.map (·.1)).Nodup→∀p∈l,Jdv s γ l p.1=p.2.den s
 |[],_,p,hp=>by cases hp
 | (k,v)::r,hn,p,hp=>by
  simp only[List.map_cons,List.nodup_cons] at hn
  rcases List.mem_cons.1 hp with rfl|hp
  ·simp[Jdv]
  ·have:p.1≠k:=fun e=>hn.1 (by rw[←e];exact List.mem_map.2 ⟨p,hp,rfl⟩)
   simp only[Jdv,if_neg this]
   exact JeI hn.2 p hp
theorem JfD {s:Value} {γ:Nat→Value} {x:Nat}:∀{l:List (Nat×MV)},(∀p∈l,p.1≠x)→Jdv s γ l x=γ x
 |[],_=>rfl
 |(k,v)::r,h=>by
  have:=h (k,v) (by simp)
  simp only[Jdv,if_neg (Ne.symm this)]
  exact JfD fun p hp=>h p (by simp[hp])
theorem Jd1 {s:Value} {γ:Nat→Value} (h1:∀κ,(γ κ).oneCell'=true) (x:Nat):∀l:List (Nat×MV),(Jdv s γ l x).oneCell'=true
 |[]=>h1 x
 |(k,v)::r=>by
  simp only[Jdv]
  split
  ·exact Jcz _ _
  ·exact Jd1 h1 x r
theorem Inv.arMove (I:Inv B N w0 γ σ a w) {κ κ':Nat} {bs:List Nat} {H H2:AH} {s2:Value} {w':World} {names:List (Nat×MV)} (owns:List Nat)
  (hk:σ (.h κ)=some (.e (.arena true bs H))) (hf:NoKey κ' σ) (ar:Ar w' s2 H2) (pre:SkPre (γ κ) s2)
  (ho:∀k∈owns,k∈names.map (·.1)∧∃e,σ (.h k)=some (.e e)∧e.mut=true) (hown:∀p∈names,p.1∈owns→γ p.1=p.2.den s2)
  (hn:∀p∈names,(NoKey p.1 σ∨p.1∈owns)∧p.2.bd≤H2.length) (hd:(names.map (·.1)).Nodup) (hκ:κ'∉names.map (·.1)) (hκ2:κ∉owns)
  (hb:BelowX (YM σ γ w fun x=>x=κ∨x∈owns) w w') (hfoot:∀b,Ve s2 H2 b→YM σ γ w (fun x=>x=κ∨x∈owns) b):
  ∃γ',(∀x,(∀p∈names,p.1≠x)→x≠κ'→γ' x=γ x)∧(∀p∈names,γ' p.1=p.2.den s2)∧
   Inv B N w0 γ' (Wl σ ((κ',.arena true (κ::bs) H2)::(κ,.dead)::JbT κ' names)) a w':=by
 have hne:κ≠κ':=fun e=>by rw[e,hf.1] at hk;cases hk
 have hkn:κ∉names.map (·.1):=fun h=>by
  obtain⟨p,hp,hpe⟩:=List.mem_map.1 h
  rcases(hn p hp).1 with h1|h1
  ·rw[hpe] at h1
   rw[h1.1] at hk;cases hk
  ·exact hκ2 (hpe▸h1)
 let γ':Nat→Value:=fun x=>if x=κ' then s2 else Jdv s2 γ names x
 have g0:γ' κ'=s2:=if_pos rfl
 have gn:∀p∈names,γ' p.1=p.2.den s2:=fun p hp=>by
  have:p.1≠κ':=fun e=>hκ (by rw[←e];exact List.mem_map.2 ⟨p,hp,rfl⟩)
  show (if p.1=κ' then s2 else _)=_
  rw[if_neg this,JeI hd p hp]
 have ge:∀x,(∀p∈names,p.1≠x)→x≠κ'→γ' x=γ x:=fun x h h'=>by
  show (if x=κ' then s2 else _)=_
  rw[if_neg h',JfD h]
 have gk:γ' κ=γ κ:=ge κ (fun p hp e=>hkn (List.mem_map.2 ⟨p,hp,e⟩)) hne
 obtain⟨a1,a2,a3⟩:=I.ent _ _ hk
 refine⟨γ',ge,gn,I.newsR (fun x=>x=κ∨x∈owns) (fun p hp=> ?_) (fun x hx=> ?_) (fun x hx=> ?_) (fun x=> ?_) hb (fun p hp=> ?_) (fun p hp q hq hpq hm=> ?_)⟩
 ·rcases List.mem_cons.1 hp with rfl|hp
  ·exact .inl hf
  rcases List.mem_cons.1 hp with rfl|hp
  ·exact .inr (.inl rfl)
  obtain⟨q,hq,rfl⟩:=List.mem_map.1 hp
  rcases(hn q hq).1 with h|h
  ·exact .inl h
  ·exact .inr (.inr h)
 ·rcases hx with rfl|hx
  ·exact⟨⟨(x,.dead),by simp,rfl⟩,_,hk,rfl⟩
  ·obtain⟨h1,h2⟩:=ho x hx
   obtain⟨q,hq,hqe⟩:=List.mem_map.1 h1
   exact⟨⟨(q.1,.apt κ' q.2),by simp only[JbT,List.mem_cons,List.mem_map];exact .inr (.inr ⟨q,hq,rfl⟩),hqe⟩,h2⟩
 ·by_cases h1:x=κ'
  ·subst h1
   rcases hx (x,.arena true (κ::bs) H2) (by simp) rfl with h|h
   ·exact absurd h.symm hne
   ·exact absurd (ho x h).1 hκ
  ·by_cases h2:∃p∈names,p.1=x
   ·obtain⟨p,hp,rfl⟩:=h2
    rcases hx (p.1,.apt κ' p.2) (by simp only[JbT,List.mem_cons,List.mem_map];exact .inr (.inr ⟨p,hp,rfl⟩)) rfl with h|h
    ·exact absurd (List.mem_map.2 ⟨p,hp,h⟩) hkn
    ·rw[gn p hp,hown p hp h]
   ·exact ge x (fun p hp e=>h2 ⟨p,hp,e⟩) h1
 ·show (if x=κ' then s2 else _).oneCell'=true
  split
  ·obtain⟨l,rfl⟩:=ar.enc
   rfl
  ·exact Jd1 I.cell1 x names
 ·rcases List.mem_cons.1 hp with rfl|hp
  ·refine⟨⟨?_,?_,?_⟩,?_⟩
   ·rw[g0];exact ar
   ·rw[g0];exact fun _=>hfoot
   ·intro κb hκb
    rw[g0]
    rcases List.mem_cons.1 hκb with rfl|hκb
    ·rw[gk];exact pre
    ·have hkey:∀k,NoKey k σ→k≠κb:=fun k h e=>h.2.1 _ _ hk (by rw[e];exact hκb)
     have e1:γ' κb=γ κb:=by
      by_cases h2:∃p∈names,p.1=κb
      ·obtain⟨p,hp,hpe⟩:=h2
       rcases(hn p hp).1 with h|h
       ·exact absurd hpe (hkey _ h)
       ·rw[←hpe,gn p hp,hown p hp h]
      ·exact ge κb (fun p hp e=>h2 ⟨p,hp,e⟩) (hkey κ' hf).symm
     rw[e1]
     exact(a3 κb hκb).trans pre
   ·intro b h
    simp only[Ent.foot,g0] at h
    exact hfoot b h
  rcases List.mem_cons.1 hp with rfl|hp
  ·exact⟨trivial,fun b h=>h.elim⟩
  obtain⟨q,hq,rfl⟩:=List.mem_map.1 hp
  refine⟨⟨?_,?_⟩,fun b h=>h.elim⟩
  ·show γ' q.1=_
   rw[gn q hq,g0]
  ·show _≤(Qg (γ' κ')).length
   rw[g0,ar.len]
   exact(hn q hq).2
 ·intro b hb' hf'
  rcases List.mem_cons.1 hp with rfl|hp
  ·rcases List.mem_cons.1 hq with rfl|hq
   ·exact hpq rfl
   rcases List.mem_cons.1 hq with rfl|hq
   ·exact hf'
   obtain⟨q',_,rfl⟩:=List.mem_map.1 hq
   exact hf'
  rcases List.mem_cons.1 hp with rfl|hp
  ·cases hm
  obtain⟨q',_,rfl⟩:=List.mem_map.1 hp
  cases hm
end Go.Gw

/- Memory that leads to memory: handed to calls; what its operations hang on. -/
import Derived.Test.YtdbheiibkpendaaGreatDoorGwG
namespace Go.Gw
open Go.RowKit Go.MapKept
variable {P:Program} {T:TypeId→Option TD} {B:Nat→Prop} {N:Nat} {w0:W0} {γ:Nat→Value} {σ:Stt} {a:Act} {w:World}
theorem Jij {s:Value} {H:AH} {v:MV} (h:Ar w s H) (hr:AH.isRow H 1 v=true) (hb:v.bd≤H.length):
  (v.den s= .slice none 0 0∧AH.view H v=[])∨∃ad cap,v.den s= .slice (some ad) (AH.view H v).length cap∧(AH.view H v).length≤cap∧cap≤maxLen∧ad.block<w.heap.size∧ad.spot=none∧Ve s H ad.block∧
   ∀j,j<(AH.view H v).length→w.cell? (ad.add j)=some (((AH.view H v).getD j .nilp).den s):=by
 cases v with
 |nils=>exact .inl ⟨rfl,rfl⟩
 | slc i s' lo n=>
  obtain⟨rfl,e,l,hat,hle⟩:=Yc hr
  simp only[MV.bd] at hb
  have hob:=h.obj i (by omega)
  rw[hat] at hob
  have hfl:AH.fl H i=l:=by simp[AH.fl,hat,MO.flat]
  have hvl:(AH.view H (.slc i 1 lo n)).length=n:=by
   simp only[AH.view,hfl,List.length_take,List.length_drop];omega
  have hli:(AH.at H i).live=true:=by rw[hat];rfl
  obtain⟨h0,m,hm1,hm2⟩:=Jfa hob
  rcases hm2.2 with⟨hv,h3⟩|⟨g,cap,cur,hv,_,hg,hmc,hcm,_⟩
  ·subst h3
   have:n=0:=by omega
   subst this
   exact .inl ⟨by simp[MV.den,hv,JcD],List.length_eq_zero_iff.1 hvl⟩
  ·right
   have hcell:=hm2.cells (g:=g) (by rw[hv];rfl)
   have hgs:=(Array.getElem?_eq_some_iff.1 hg).1
   have hfoot:Ve s H g:=⟨i,hli,by rw[hv];rfl⟩
   rw[hvl]
   refine⟨if cap=lo then⟨g,0,none⟩ else(⟨g,0,none⟩:Addr).add (lo*1),cap-lo,by simp only[MV.den,hv,JcD],by omega,by omega,?_,?_,?_,fun j hj=> ?_⟩
   ·split<;>simp[Jn,hgs]
   ·split<;>simp[Jn]
   ·split<;>simp only[Jn]<;>exact hfoot
   ·rw[if_neg (by omega)]
    have:=hcell (lo+j) (((AH.view H (.slc i 1 lo n)).getD j .nilp).den s) (by
     have hlj:lo+j<l.length:=by omega
     have hv2:(AH.view H (.slc i 1 lo n))[j]? =some l[lo+j]:=by
      simp only[AH.view,hfl,List.getElem?_take,List.getElem?_drop,Nat.mul_one]
      rw[if_pos hj,List.getElem?_eq_getElem hlj]
     rw[List.getD_eq_getElem?_getD,hv2]
     simp[List.getElem?_eq_getElem hlj])
    rw[Jn] at this ⊢
    rw[Jn]
    simpa using this
 |_=>cases hr
theorem Jky {s:Value} {H:AH} {v:MV} {k:IntKind} (h:Ar w s H) (hr:AH.isInts H k v=true) (hb:v.bd≤H.length):RdI w (v.den s) k (AH.ints H v)∧∀b,YP (v.den s)=some b→Ve s H b:=by
 simp only[AH.isInts,Bool.and_eq_true,List.all_eq_true] at hr
 rcases Jij h hr.1 hb with⟨h1,h2⟩|⟨ad,cap,h1,h2,h3,h4,h5,h6,h7⟩
 ·exact⟨.inl ⟨⟨none,h1⟩,by simp[AH.ints,h2]⟩,fun b hb=>by rw[h1] at hb;cases hb⟩
 ·refine⟨.inr ⟨ad,cap,by simpa[AH.ints] using h1,by simpa[AH.ints] using h2,h3,h4,h5,fun i hi=> ?_⟩,fun b hb=> ?_⟩
  ·have hi:i<(AH.view H v).length:=by simpa[AH.ints] using hi
   rw[h7 i hi]
   have e1:=Jks (hr.2 _ (List.getElem_mem hi))
   have e2:(AH.view H v).getD i .nilp=(AH.view H v)[i]:=by simp[List.getD,List.getElem?_eq_getElem hi]
   rw[e2,e1]
   simp[AH.ints,List.getD,hi,MV.den]
  ·have:=WO hb
   rw[h1] at this
   simp only[Jw,Option.some.injEq] at this
   rw[←this];exact h6
theorem Jmn {s:Value} {H:AH} {v:MV} (h:Ar w s H) (hr:AH.isBools H v=true) (hb:v.bd≤H.length):RdB w (v.den s) (AH.bools H v)∧∀b,YP (v.den s)=some b→Ve s H b:=by
 simp only[AH.isBools,Bool.and_eq_true,List.all_eq_true] at hr
 rcases Jij h hr.1 hb with⟨h1,h2⟩|⟨ad,cap,h1,h2,h3,h4,h5,h6,h7⟩
 ·exact⟨.inl ⟨⟨none,h1⟩,by simp[AH.bools,h2]⟩,fun b hb=>by rw[h1] at hb;cases hb⟩
 ·refine⟨.inr ⟨ad,cap,by simpa[AH.bools] using h1,by simpa[AH.bools] using h2,h3,h4,h5,fun i hi=> ?_⟩,fun b hb=> ?_⟩
  ·have hi:i<(AH.view H v).length:=by simpa[AH.bools] using hi
   rw[h7 i hi]
   have e1:=JkG (hr.2 _ (List.getElem_mem hi))
   have e2:(AH.view H v).getD i .nilp=(AH.view H v)[i]:=by simp[List.getD,List.getElem?_eq_getElem hi]
   rw[e2,e1]
   simp[AH.bools,List.getD,hi,MV.den]
  ·have:=WO hb
   rw[h1] at this
   simp only[Jw,Option.some.injEq] at this
   rw[←this];exact h6
structure Pre1 (B:Nat→Prop) (γ:Nat→Value) (w:World) (σ:Stt) (c:Nat×CV) (p:Nat×Ent):Prop where
 key:p.1=c.1
 pat:p.2.at B γ w p.1
 mt:p.2.mut=true→∃e,σ (.h p.1)=some (.e e)∧e.mut=true∧∀b,p.2.reg γ w p.1 b→e.reg γ w p.1 b

 ft:∀b,p.2.foot γ w p.1 b→(∃e,σ (.h p.1)=some (.e e)∧e.foot γ w p.1 b)∨(∃κa rw' bs H,σ (.h κa)=some (.e (.arena rw' bs H))∧Ve (γ κa) H b∧((∃k,c.2= .rd k κa)∨c.2= .rdb κa∨∃k κ1 κ2,c.2= .rows k κa κ1 κ2))∨
  ∃κ2 e,σ (.h κ2)=some (.e e)∧e.mut=false∧e.foot γ w κ2 b
 rwk:∀rw' bs H,σ (.h p.1)=some (.e (.arena rw' bs H))→p.2.mut=true→c.2= .rw
theorem JgH (I:Inv B N w0 γ σ a w) {c:Nat×CV} {r:(Nat×Ent)×List Prop} (h:Qe σ c=some r) (hn:Wn r.2):Pre1 B γ w σ c r.1:=by
 obtain⟨κ,m⟩:=c
 cases m with
 | same=>
  simp only[Qe] at h
  split at h
  ·cases h
  ·cases h
  ·cases h
  ·rename_i e hna _ he
   simp only[Option.some.injEq] at h
   subst h
   have hk:=I.key he
   exact⟨rfl,hk.2,fun hm=>⟨e,hk.1,hm,fun b hb=>hb⟩,fun b hb=> .inl ⟨e,hk.1,hb⟩,fun rw' bs H h1 _=>by rw[hk.1] at h1;cases h1;exact absurd rfl (hna _ _ _)⟩
 | ro=>
  simp only[Qe] at h
  split at h
  ·rename_i rw' bs H he
   simp only[Option.some.injEq] at h
   subst h
   have hk:=I.key he
   exact⟨rfl,⟨hk.2.1,(fun h=>by cases h),(fun κb hb=>by cases hb)⟩,(fun hm=>by cases hm),fun b hb=> .inl ⟨_,hk.1,hb⟩,(fun _ _ _ _ hm=>by cases hm)⟩
  ·cases h
 | rw=>
  simp only[Qe] at h
  split at h
  ·rename_i bs H he
   simp only[Option.some.injEq] at h
   subst h
   have hk:=I.key he
   exact⟨rfl,⟨hk.2.1,hk.2.2.1,(fun κb hb=>by cases hb)⟩,fun _=>⟨_,hk.1,rfl,fun b hb=>hb⟩,fun b hb=> .inl ⟨_,hk.1,hb⟩,fun _ _ _ _ _=>rfl⟩
  ·cases h
 | apt κa=>
  simp only[Qe] at h
  split at h
  ·rename_i rw' bs H he
   cases hv:Xp σ κa bs κ with
   |none=>simp[hv] at h
   |some v=>
    simp only[hv,Option.map_some,Option.some.injEq] at h
    subst h
    have hk:=I.key he
    obtain⟨e1,e2⟩:=JT I hk.1 hv
    exact⟨rfl,⟨e1,by rw[hk.2.1.len];exact e2⟩,(fun hm=>by cases hm),fun b hb=>hb.elim,(fun _ _ _ _ hm=>by cases hm)⟩
  ·cases h
 | rd k κa=>
  simp only[Qe] at h
  split at h
  ·rename_i rw' bs H he
   cases hv:Xp σ κa bs κ with
   |none=>simp[hv] at h
   |some v=>
    simp only[hv,Option.map_some,Option.some.injEq] at h
    subst h
    have hk:=I.key he
    obtain⟨e1,e2⟩:=JT I hk.1 hv
    obtain⟨r1,r2⟩:=Jky hk.2.1 hn e2
    exact⟨rfl,by show RdI w (γ κ) k _;rw[e1];exact r1,(fun hm=>by cases hm),fun b hb=> .inr (.inl ⟨κa,rw',bs,H,hk.1,r2 b (by rw[←e1];exact hb),.inl ⟨k,rfl⟩⟩),(fun _ _ _ _ hm=>by cases hm)⟩
  ·cases h
 | rdb κa=>
  simp only[Qe] at h
  split at h
  ·rename_i rw' bs H he
   cases hv:Xp σ κa bs κ with
   |none=>simp[hv] at h
   |some v=>
    simp only[hv,Option.map_some,Option.some.injEq] at h
    subst h
    have hk:=I.key he
    obtain⟨e1,e2⟩:=JT I hk.1 hv
    obtain⟨r1,r2⟩:=Jmn hk.2.1 hn e2
    exact⟨rfl,by show RdB w (γ κ) _;rw[e1];exact r1,(fun hm=>by cases hm),fun b hb=> .inr (.inl ⟨κa,rw',bs,H,hk.1,r2 b (by rw[←e1];exact hb),.inr (.inl rfl)⟩),(fun _ _ _ _ hm=>by cases hm)⟩
  ·cases h
 | rows k κa κ1 κ2=>
  simp only[Qe] at h
  split at h
  ·rename_i _ rw' bs H e κ1' κ2' ha he
   split at h
   ·rename_i v k2 l2 hv h2
    cases hc:(keq k k2&&Nat.beq κ1 κ1'&&Nat.beq κ2 κ2') with
    |false=>simp[hc] at h
    | true=>
     simp only[hc,cond_true,Option.some.injEq] at h
     subst h
     simp only[Bool.and_eq_true] at hc
     obtain rfl:=WF hc.1.1
     obtain rfl:=Nat.eq_of_beq_eq_true hc.1.2
     obtain rfl:=Nat.eq_of_beq_eq_true hc.2
     have hk:=I.key ha
     have hl:=I.key he
     have hr:=I.key h2
     obtain⟨e1,e2⟩:=JT I hk.1 hv
     obtain⟨r1,r2⟩:=Jky hk.2.1 hn e2
     rw[←e1] at r1 r2
     have r3:RdI w (γ κ2) k l2:=hr.2
     obtain⟨b0,g1,g2,g3,g4,g5⟩:=hl.2
     have hlt:=(Array.getElem?_eq_some_iff.1 g4).1
     have hcell:∀j,w.cell? ((⟨b0,0,none⟩:Addr).add j)=[γ κ1,γ κ2][j]? :=fun j=>by
      rw[Jn,Nat.zero_add,cell_of_row w b0 j _ e (0,0) g4]
      simp[Jq,Leaf.cells]
     have hrd:RdR w (γ κ) (.bs k [AH.ints H v,l2]):=by
      refine .inr ⟨⟨b0,0,none⟩,2,g1,Nat.le_refl 2,g3,hlt,rfl,fun j d hd=> ?_⟩
      match j with
      |0=>simp only[RowsK.cells,List.map_cons,List.getElem?_cons_zero,Option.some.injEq] at hd;subst hd;exact⟨γ κ1,by rw[hcell];rfl,I.cell1 _,r1⟩
      |1=>simp only[RowsK.cells,List.map_cons,List.getElem?_cons_succ,List.getElem?_cons_zero,Option.some.injEq] at hd;subst hd;exact⟨γ κ2,by rw[hcell];rfl,I.cell1 _,r3⟩
      |j+2=>simp[RowsK.cells] at hd
     refine⟨rfl,hrd,(fun hm=>by cases hm),fun b hb=> ?_,(fun _ _ _ _ hm=>by cases hm)⟩
     rcases hb with hb|⟨a',len,cap',j,u,q1,q2,q3,q4⟩
     ·exact .inl ⟨_,hl.1,hb⟩
     ·rw[g1] at q1
      simp only[Value.slice.injEq,Option.some.injEq] at q1
      obtain⟨rfl,_,_⟩:=q1
      rw[hcell] at q3
      match j with
      |0=>
       simp only[List.getElem?_cons_zero,Option.some.injEq] at q3
       subst q3
       exact .inr (.inl ⟨κa,rw',bs,H,hk.1,r2 b q4,.inr (.inr ⟨k,κ1,κ2,rfl⟩)⟩)
      |1=>
       simp only[List.getElem?_cons_succ,List.getElem?_cons_zero,Option.some.injEq] at q3
       subst q3
       exact .inr (.inr ⟨κ2,_,hr.1,rfl,q4⟩)
      |j+2=>simp at q3
   ·cases h
  ·cases h
theorem JdQ (I:Inv B N w0 γ σ a w):∀{ks:List (Nat×CV)} {pre:List (Nat×Ent)} {nd:List Prop},Ji5 σ ks=some (pre,nd)→Wn nd→
  (∀p∈pre,∃c∈ks,Pre1 B γ w σ c p)∧∀c∈ks,∃p∈pre,p.1=c.1
 |[],pre,nd,h,_=>by simp only[Ji5,Option.some.injEq,Prod.mk.injEq] at h;obtain⟨rfl,rfl⟩:=h;exact⟨(fun p hp=>by cases hp),(fun c hc=>by cases hc)⟩
 | c ::r,pre,nd,h,hn=>by
  simp only[Ji5] at h
  split at h
  ·rename_i x y h1 h2
   simp only[Option.some.injEq,Prod.mk.injEq] at h
   obtain⟨rfl,rfl⟩:=h
   obtain⟨n1,n2⟩:=VU.1 hn
   have p1:=JgH I h1 n1
   obtain⟨q1,q2⟩:=JdQ I (pre:=y.1) (nd:=y.2) h2 n2
   refine⟨fun p hp=> ?_,fun c' hc'=> ?_⟩
   ·rcases List.mem_cons.1 hp with rfl|hp
    ·exact⟨c,by simp,p1⟩
    ·obtain⟨c',hc',h⟩:=q1 p hp
     exact⟨c',by simp[hc'],h⟩
   ·rcases List.mem_cons.1 hc' with rfl|hc'
    ·exact⟨x.1,by simp,p1.key⟩
    ·obtain⟨p,hp,h⟩:=q2 c' hc'
     exact⟨p,by simp[hp],h⟩
  ·cases h
theorem QO (σ:Stt) (p:Nat×Ent):(JaZ σ p).1=p.1∧(JaZ σ p).2.mut=p.2.mut∧(∀γ w b,(JaZ σ p).2.reg γ w p.1 b↔p.2.reg γ w p.1 b)∧∀γ w b,(JaZ σ p).2.foot γ w p.1 b↔p.2.foot γ w p.1 b:=by
 obtain⟨κ,e⟩:=p
 cases e with
 |arena rw' bs H=>cases rw'<;>exact⟨rfl,rfl,fun _ _ _=>Iff.rfl,fun _ _ _=>Iff.rfl⟩
 |_=>exact⟨rfl,rfl,fun _ _ _=>Iff.rfl,fun _ _ _=>Iff.rfl⟩
theorem Jfz (I:Inv B N w0 γ σ a w) {ks:List (Nat×CV)} {res:SV} {news pre:List (Nat×Ent)} {nd:List Prop} {l:List SV} {f:Nat}
  (hpre:Ji5 σ ks=some (pre,nd)) (hnd:Wn nd) (hap:Jh9 ks=true) (htk:JhA ks pre news=true) (hf:∀p∈news,NoKey p.1 σ∨(ks.any fun q=>Nat.beq q.1 p.1)=true)
  (hl:∀x∈l,x.ok) (hc:CallOk P f l pre res news) {nn:List Prop}:
  RunOk P (callFunc f (l.map (SV.den γ)).toArray) w (Post B N w0 σ a ⟨some res,news.map (JaZ σ),nn⟩):=by
 obtain⟨s1,s2⟩:=JdQ I hpre hnd
 have ap:YQ γ w pre:=fun p hp q hq hne hm b hb hb'=>by
  obtain⟨c,hc1,p1⟩:=s1 p hp
  obtain⟨d,hd1,q1⟩:=s1 q hq
  obtain⟨e,he,hem,hreg⟩:=p1.mt hm
  rcases q1.ft b hb' with⟨e',he',hf'⟩|⟨κa,rw',bs,H,ha,hfa,hcv⟩|⟨κ2,e2,he2,hm2,hf2⟩
  ·exact I.apart p.1 e q.1 e' he he' hne hem b (hreg b hb) hf'
  ·by_cases hka:p.1=κa
   ·have hrw:=p1.rwk rw' bs H (by rw[hka];exact ha) hm
    have h1:=List.all_eq_true.1 hap d hd1
    have h2:(ks.all fun q=>match q.2 with| .rw=> !(Nat.beq q.1 κa)|_=>true)=true:=by
     rcases hcv with⟨k,hcv⟩|hcv|⟨k,κ1,κ2,hcv⟩<;>rw[hcv] at h1<;>exact h1
    have h3:=List.all_eq_true.1 h2 c hc1
    rw[hrw] at h3
    simp only[Bool.not_eq_true'] at h3
    have:Nat.beq c.1 κa=true:=by rw[←p1.key,hka];exact Nat.beq_refl _
    rw[this] at h3;cases h3
   ·exact I.apart p.1 e κa _ he ha hka hem b (hreg b hb) hfa
  ·by_cases hk2:p.1=κ2
   ·rw[hk2,he2] at he
    cases he
    rw[hm2] at hem;cases hem
   ·exact I.apart p.1 e κ2 e2 he he2 hk2 hem b (hreg b hb) hf2
 have:=hc B γ w (fun p hp=>by obtain⟨c,_,h⟩:=s1 p hp;exact h.pat) ap hl (fun b hb=>I.top b (Nat.le_trans I.below.size hb)) I.cell1
 refine RunOk.mono ?_ this
 rintro v w' ⟨γ',g1,g2,g3,g4,g5,g6,g7⟩
 have kin:∀κ,(ks.any fun q=>Nat.beq q.1 κ)=true→∃p∈pre,p.1=κ:=fun κ h=>by
  obtain⟨c,hc1,hc2⟩:=List.any_eq_true.1 h
  obtain⟨p,hp,hpe⟩:=s2 c hc1
  exact⟨p,hp,hpe.trans (Nat.eq_of_beq_eq_true hc2)⟩
 let use:Nat→Prop:=fun κ=>(∃p∈news,p.1=κ)∧(ks.any fun q=>Nat.beq q.1 κ)=true
 have taken:∀κ,use κ→∃e,σ (.h κ)=some (.e e)∧e.mut=true:=fun κ ⟨⟨p,hp,hpe⟩,hk⟩=>by
  have h1:=List.all_eq_true.1 htk p hp
  rw[hpe,hk] at h1
  simp only[cond_true] at h1
  obtain⟨q,hq,hqe⟩:=List.any_eq_true.1 h1
  simp only[Bool.and_eq_true] at hqe
  obtain⟨c,_,q1⟩:=s1 q hq
  obtain⟨e,he,hem,_⟩:=q1.mt hqe.2
  rw[Nat.eq_of_beq_eq_true hqe.1] at he
  exact⟨e,he,hem⟩
 have tch:∀b,Touch γ w pre news b→YM σ γ w use b:=fun b h=>by
  rcases h with h|⟨p,hp,hm,⟨q,hq,hqe⟩,hb⟩
  ·exact .inl h
  ·obtain⟨c,hc1,p1⟩:=s1 p hp
   obtain⟨e,he,hem,hreg⟩:=p1.mt hm
   refine .inr ⟨p.1,e,⟨⟨q,hq,hqe⟩,?_⟩,he,hreg b hb⟩
   exact List.any_eq_true.2 ⟨c,hc1,by rw[p1.key];exact Nat.beq_refl _⟩
 have old:∀κ,¬NoKey κ σ→γ' κ=γ κ:=fun κ hκ=>g1 κ fun p hp hpe=>by
  rcases hf p hp with h|h
  ·exact absurd (hpe▸h) hκ
  ·exact kin κ (hpe▸h)
 have mem':∀p'∈news.map (JaZ σ),∃p∈news,p'=JaZ σ p:=fun p' hp'=>by
  obtain⟨p,hp,rfl⟩:=List.mem_map.1 hp'
  exact⟨p,hp,rfl⟩
 refine⟨γ',g3,g4,I.newsR use (fun p' hp'=> ?_) (fun κ hκ=> ?_) (fun κ hκ=>g1 κ fun p hp hpe=> ?_) g2 (g5.mono fun b _ h=>tch b h) (fun p' hp'=> ?_) (fun p' hp' q' hq' hne hm b hb hb'=> ?_)⟩
 ·obtain⟨p,hp,rfl⟩:=mem' p' hp'
  rw[(QO σ p).1]
  rcases hf p hp with h|h
  ·exact .inl h
  ·exact .inr ⟨⟨p,hp,rfl⟩,h⟩
 ·obtain⟨p,hp,hpe⟩:=hκ.1
  exact⟨⟨JaZ σ p,List.mem_map.2 ⟨p,hp,rfl⟩,(QO σ p).1.trans hpe⟩,taken κ hκ⟩
 ·exact kin κ (hκ (JaZ σ p) (List.mem_map.2 ⟨p,hp,rfl⟩) ((QO σ p).1.trans hpe)).2
 ·obtain⟨p,hp,rfl⟩:=mem' p' hp'
  obtain⟨e1,e2,e3,e4⟩:=QO σ p
  obtain⟨h1,h2⟩:=g6 p hp
  rw[e1]
  refine⟨?_,fun b hb=>tch b (h2 b ((e4 γ' w' b).1 hb))⟩
  have h1:=Ent.at_mono tch h1
  obtain⟨κ,e⟩:=p
  cases e with
  | arena rw' bs H=>
   obtain⟨q1,q2,q3⟩:=h1
   refine⟨q1,q2,fun κb hb=> ?_⟩
   simp only[List.mem_append,List.mem_flatMap] at hb
   rcases hb with hb|⟨κ2,hκ2,hb⟩
   ·exact q3 κb hb
   ·unfold JlL at hb
    split at hb
    ·rename_i rw2 bs2 H2 he2
     have hk2:=I.key he2
     have n1:¬NoKey κb σ:=fun h=>h.2.1 _ _ hk2.1 hb
     have n2:¬NoKey κ2 σ:=fun h=>by rw[h.1] at hk2;cases hk2.1
     have:=hk2.2.2.2 κb hb
     rw[←old κb n1,←old κ2 n2] at this
     exact this.trans (q3 κ2 hκ2)
    ·cases hb
  |_=>exact h1
 ·obtain⟨p,hp,rfl⟩:=mem' p' hp'
  obtain⟨q,hq,rfl⟩:=mem' q' hq'
  obtain⟨e1,e2,e3,_⟩:=QO σ p
  obtain⟨f1,_,_,f4⟩:=QO σ q
  rw[e1] at hb hne
  rw[f1] at hb' hne
  exact g7 p hp q hq hne (by rw[←e2];exact hm) b ((e3 γ' w' b).1 hb) ((f4 γ' w' b).1 hb')
end Go.Gw
namespace Go.Gw
open Go.RowKit Go.MapKept
variable {T:TypeId→Option TD} {σ σ':Stt}
theorem WC {κ:Nat} {bs:List Nat} {κ':Nat} (h:Jh σ' κ'=Jh σ κ'):Xp σ' κ bs κ'=Xp σ κ bs κ':=by unfold Xp;rw[h]
theorem Jee {κ:Nat} {bs:List Nat} {κ':Nat} (h:Jh σ' κ'=Jh σ κ'):wvS σ' κ bs κ'=wvS σ κ bs κ':=by unfold wvS;rw[h]
theorem JgA {κ:Nat} {bs:List Nat} {u:SV} (h:∀κ'∈u.keys,Jh σ' κ'=Jh σ κ'):JiG σ' κ bs u=JiG σ κ bs u:=by
 unfold JiG
 split
 ·rename_i κ';rw[WC (h κ' (by simp[SV.keys,V1.keys,V1.keys.lk]))]
 ·rename_i κ' sz i off;rw[WC (h κ' (by simp[SV.keys,V1.keys,V1.keys.lk]))]
 ·rfl
theorem JgP {κ:Nat} {bs:List Nat} {u:SV} (h:∀κ'∈u.keys,Jh σ' κ'=Jh σ κ'):Jlx σ' κ bs u=Jlx σ κ bs u:=by
 unfold Jlx
 split
 ·rename_i κ';exact WC (h κ' (by simp[SV.keys,V1.keys,V1.keys.lk]))
 ·rfl
 ·rfl
theorem Jdm {x:Leaf} (h:∀κ'∈x.keys,Jh σ' κ'=Jh σ κ'):JaY σ' x=JaY σ x:=by
 cases x with
 |slc κ=>simp only[JaY];rw[h κ (by simp[Leaf.keys])]
 |_=>rfl
theorem JaD:∀{ls:List Leaf},(∀x∈ls,∀κ'∈x.keys,Jh σ' κ'=Jh σ κ')→Jag σ' ls=Jag σ ls
 |[],_=>rfl
 |x::r,h=>by
  simp only[Jag]
  rw[Jdm (h x (by simp)),JaD fun y hy=>h y (by simp[hy])]
theorem JgG {κ:Nat} {bs:List Nat} {o:Option (Nat×MV)} {x:Leaf} (h:∀κ'∈x.keys,Jh σ' κ'=Jh σ κ'):JlK σ' κ bs o x=JlK σ κ bs o x:=by
 cases x with
 |slc κ'=>simp only[JlK];rw[WC (h κ' (by simp[Leaf.keys]))]
 |_=>rfl
theorem Jck {κ:Nat} {bs:List Nat} {o:Option (Nat×MV)}:∀{ls:List Leaf},(∀x∈ls,∀κ'∈x.keys,Jh σ' κ'=Jh σ κ')→mvL σ' κ bs o ls=mvL σ κ bs o ls
 |[],_=>rfl
 |x::r,h=>by
  simp only[mvL]
  rw[JgG (h x (by simp)),Jck fun y hy=>h y (by simp[hy])]
theorem Jbh {κ κ':Nat} {bs:List Nat} {H:AH} {ls:List Leaf} (h:∀x∈ls,∀κ'∈x.keys,Jh σ' κ'=Jh σ κ'):Jcc σ' κ κ' bs H ls=Jcc σ κ κ' bs H ls:=by
 unfold Jcc
 rw[JaD h]
 split
 ·rw[Jck h]
 ·rw[Jck h]
theorem Jg0 {κ:Nat} {bs:List Nat} {H:AH} {sz:Nat} {u:SV} (h:∀κ'∈u.keys,Jh σ' κ'=Jh σ κ'):Jlz σ' κ bs H sz u=Jlz σ κ bs H sz u:=by
 unfold Jlz
 split
 ·rfl
 ·rename_i κ';rw[h κ' (by simp[SV.keys,V1.keys,V1.keys.lk])]
 ·rfl
theorem Jb3:∀{ps:List (Nat×Operand)} {i:Nat},(∀p∈ps,Jg σ' p.2=Jg σ p.2)→boolL σ' i ps=boolL σ i ps
 |[],_,_=>rfl
 |(j,x)::r,i,h=>by
  simp only[boolL]
  rw[h (j,x) (by simp),Jb3 fun p hp=>h p (by simp[hp])]
theorem Jb6 {y:SV} {ls:List Leaf} (h:QG y=some ls):∀x∈ls,∀κ∈x.keys,κ∈y.keys:=by
 intro x hx κ hκ
 unfold QG at h
 split at h
 ·simp only[Option.some.injEq] at h
  subst h
  simp only[List.mem_singleton] at hx
  subst hx
  simpa[SV.keys,V1.keys,Jbz] using hκ
 ·simp only[Option.some.injEq] at h
  subst h
  simp only[SV.keys,V1.keys,List.mem_flatMap]
  exact⟨x,hx,by rwa [Jbz]⟩
 ·cases h
theorem Jcn {κ:Nat} {ns:List Nat} {rw':Bool} {bs:List Nat} {H:AH} {op:Op} (hs:∀x∈op.operands,Jg σ' x=Jg σ x)
  (hk:∀x∈op.operands,∀v,Jg σ x=some v→∀κ∈v.keys,Jh σ' κ=Jh σ κ):arS T σ' κ ns rw' bs H op=arS T σ κ ns rw' bs H op:=by
 have k1:∀{x:Operand} {κ':Nat},x∈op.operands→Jg σ x=some (.v (.one (.slc κ')))→Xp σ' κ bs κ'=Xp σ κ bs κ':=fun hx h=>WC (hk _ hx _ h _ (by simp[SV.keys,V1.keys,V1.keys.lk]))
 have k2:∀{x:Operand} {κ' sz off:Nat} {i:Int},x∈op.operands→Jg σ x=some (.v (.one (.per κ' sz i off)))→Xp σ' κ bs κ'=Xp σ κ bs κ':=fun hx h=>WC (hk _ hx _ h _ (by simp[SV.keys,V1.keys,V1.keys.lk]))
 have ka:∀{x:Operand},x∈op.operands→(Jg σ x).bind (JiG σ' κ bs)=(Jg σ x).bind (JiG σ κ bs):=fun {x} hx=>by
  cases h:Jg σ x with
  |none=>rfl
  |some u=>exact JgA (hk x hx u h)
 cases op with
 |load t x=>simp only[arS];rw[hs x (by simp[Op.operands]),ka (by simp[Op.operands])]
 | store t x y=>
  simp only[arS]
  rw[hs x (by simp[Op.operands]),hs y (by simp[Op.operands]),ka (x:=x) (by simp[Op.operands])]
  split
  ·rename_i κ' p ls g n hp hls hg
   cases hy:Jg σ y with
   |none=>simp[hy] at hls
   |some u=>
    simp only[hy,Option.bind_some] at hls
    rw[Jbh fun x' hx' κ2 hκ2=>hk y (by simp[Op.operands]) u hy κ2 (Jb6 hls x' hx' κ2 hκ2)]
  ·rfl
 | box t x=>
  simp only[arS]
  rw[hs x (by simp[Op.operands])]
  split
  ·rename_i κ' κv ls hx
   rw[Jbh fun x' hx' κ2 hκ2=>hk x (by simp[Op.operands]) _ hx κ2 (Jb6 (y:= .v (.agg ls)) rfl x' hx' κ2 hκ2)]
  ·rfl
 |nilCheck x=>
  simp only[arS]
  rw[hs x (by simp[Op.operands])]
  split
  ·rename_i hx;rw[k1 (by simp[Op.operands]) hx]
  ·rename_i hx;rw[k2 (by simp[Op.operands]) hx]
  ·rfl
 |fieldAddr t x f=>
  simp only[arS]
  rw[hs x (by simp[Op.operands])]
  split
  ·rename_i hx;simp only[k1 (x:=x) (by simp[Op.operands]) hx]
  ·rename_i hx;simp only[k2 (x:=x) (by simp[Op.operands]) hx]
  ·rfl
 |indexAddr t x i=>
  simp only[arS]
  rw[hs x (by simp[Op.operands]),hs i (by simp[Op.operands])]
  split
  ·rename_i hx _;rw[k1 (by simp[Op.operands]) hx]
  ·rename_i hx _;rw[k2 (by simp[Op.operands]) hx]
  ·rename_i hx _;simp only[k1 (x:=x) (by simp[Op.operands]) hx]
  ·rfl
 | lookup t x k c=>
  cases c with
  |true=>rfl
  |false=>
   simp only[arS]
   rw[hs x (by simp[Op.operands]),hs k (by simp[Op.operands])]
   split
   ·rename_i hx _;rw[k1 (by simp[Op.operands]) hx]
   ·rfl
 | mapUpdate t x k y=>
  simp only[arS]
  rw[hs x (by simp[Op.operands]),hs k (by simp[Op.operands]),hs y (by simp[Op.operands])]
  split
  ·rename_i hx _
   rw[k1 (by simp[Op.operands]) hx]
   split
   ·rename_i hy;rw[k1 (by simp[Op.operands]) hy]
   ·rfl
  ·rfl
 |binOp op t x y t'=>
  simp only[arS]
  rw[hs x (by simp[Op.operands]),hs y (by simp[Op.operands])]
  split
  ·rename_i hx _;simp only[k1 (x:=x) (by simp[Op.operands]) hx]
  ·rfl
 | slice t x lo hi mx=>
  cases mx with
  |some m=>rfl
  | none=>
   simp only[arS]
   have optc:∀o:Option Operand,(∀x,o=some x→Jg σ' x=Jg σ x)→Jbm σ' o=Jbm σ o:=fun o h=>by
    cases o with
    |none=>rfl
    |some x=>simp only[Jbm];rw[h x rfl]
   rw[hs x (by simp[Op.operands]),optc lo (fun y hy=>hs y (by simp[Op.operands,hy])),optc hi (fun y hy=>hs y (by simp[Op.operands,hy]))]
   split
   ·rename_i hx _ _;simp only[k1 (x:=x) (by simp[Op.operands]) hx]
   ·rfl
 |makeMap t r=>cases r<;>rfl
 |makeSlice t x y=>simp only[arS];rw[hs x (by simp[Op.operands]),hs y (by simp[Op.operands])]
 |buildSlice t n ps=>
  have hp:∀p∈ps.toList,Jg σ' p.2=Jg σ p.2:=fun p hp=>hs p.2 (by simp only[Op.operands,List.mem_toArray,List.mem_map];exact⟨p,hp,rfl⟩)
  simp only[arS]
  rw[Jb3 hp]
 | call c=>
  obtain⟨callee,args,ts⟩:=c
  have ham:∀{b:Builtin} {x:Operand} {j:Nat},args[j]? =some x→x∈(Op.call ⟨.builtin b,args,ts⟩).operands:=fun h=>by
   simp only[Op.operands,Call.operands,Array.mem_append];exact .inr (Array.mem_of_getElem? h)
  have hal:∀{b:Builtin} {x:Operand},x∈args.toList→x∈(Op.call ⟨.builtin b,args,ts⟩).operands:=fun h=>by
   simp only[Op.operands,Call.operands,Array.mem_append];exact .inr (by simpa using h)
  cases callee with
  | builtin b=>cases b with
   | len=>
    have e:(args[0]?).bind (Jg σ')=(args[0]?).bind (Jg σ):=by
     cases hx:args[0]? with
     |none=>rfl
     |some x=>exact hs x (ham hx)
    simp only[arS]
    rw[e]
    split
    ·rename_i hx
     cases hx0:args[0]? with
     |none=>simp[hx0] at hx
     |some x=>
      simp only[hx0,Option.bind_some] at hx
      simp only[k1 (x:=x) (ham hx0) hx]
    ·rfl
   | append=>
    simp only[arS]
    split
    ·rename_i x y t t' ha _
     have hx:x∈args.toList:=by rw[ha];simp
     have hy:y∈args.toList:=by rw[ha];simp
     rw[hs x (hal hx),hs y (hal hy)]
     have e:(Jg σ x).bind (Jlx σ' κ bs)=(Jg σ x).bind (Jlx σ κ bs):=by
      cases h:Jg σ x with
      |none=>rfl
      |some u=>exact JgP (hk x (hal hx) u h)
     rw[e]
     cases Nat.beq t t' with
     |false=>rfl
     | true=>
      simp only[cond_true]
      split
      ·rename_i hu
       rw[Jg0 (hk y (hal hy) _ hu)]
      ·rfl
    ·rfl
   | clear=>
    have e:(args[0]?).bind (Jg σ')=(args[0]?).bind (Jg σ):=by
     cases hx:args[0]? with
     |none=>rfl
     |some x=>exact hs x (ham hx)
    simp only[arS]
    rw[e]
    split
    ·rename_i hx
     cases hx0:args[0]? with
     |none=>simp[hx0] at hx
     |some x=>
      simp only[hx0,Option.bind_some] at hx
      rw[Jee (hk x (ham hx0) _ hx _ (by simp[SV.keys,V1.keys,V1.keys.lk]))]
    ·rfl
   | delete=>
    simp only[arS]
    split
    ·rename_i x k _ ha
     have hx:x∈args.toList:=by rw[ha];simp
     have hk':k∈args.toList:=by rw[ha];simp
     rw[hs x (hal hx),hs k (hal hk')]
     split
     ·rename_i hu _;simp only[k1 (x:=x) (hal hx) hu]
     ·rfl
    ·rfl
   |_=>rfl
  |_=>rfl
 |_=>rfl
theorem Jfx {c:Nat×CV} (h1:Jh σ' c.1=Jh σ c.1) (h2:∀κa,(c.2= .apt κa∨(∃k,c.2= .rd k κa)∨c.2= .rdb κa∨∃k κ1 κ2 κ3,c.2= .rows k κ1 κ2 κ3∧(κa=κ1∨κa=κ2∨κa=κ3))→Jh σ' κa=Jh σ κa):Qe σ' c=Qe σ c:=by
 obtain⟨κ,m⟩:=c
 cases m with
 |apt κa=>simp only[Qe];rw[h2 κa (.inl rfl)];split<;>first|rw [WC h1]|rfl
 |rd k κa=>simp only[Qe];rw[h2 κa (.inr (.inl ⟨k,rfl⟩))];split<;>first|rw [WC h1]|rfl
 |rdb κa=>simp only[Qe];rw[h2 κa (.inr (.inr (.inl rfl)))];split<;>first|rw [WC h1]|rfl
 |rows k κa κ1 κ2=>
  simp only[Qe]
  have h1:Jh σ' κ=Jh σ κ:=h1
  rw[h1,h2 κa (.inr (.inr (.inr ⟨k,κa,κ1,κ2,rfl,.inl rfl⟩))),h2 κ2 (.inr (.inr (.inr ⟨k,κa,κ1,κ2,rfl,.inr (.inr rfl)⟩)))]
  split
  ·rw[WC (h2 κ1 (.inr (.inr (.inr ⟨k,κa,κ1,κ2,rfl,.inr (.inl rfl)⟩))))]
  ·rfl
 |same=>simp only[Qe];rw[show Jh σ' κ=Jh σ κ from h1]
 |ro=>simp only[Qe];rw[show Jh σ' κ=Jh σ κ from h1]
 |rw=>simp only[Qe];rw[show Jh σ' κ=Jh σ κ from h1]
def JkC:Nat×CV→List Nat
 |(κ,.apt κa)|(κ,.rd _ κa)|(κ,.rdb κa)=>[κ,κa]
 |(κ,.rows _ κa κ1 κ2)=>[κ,κa,κ1,κ2]
 |(κ,_)=>[κ]
theorem Jc9:∀{ks:List (Nat×CV)},(∀κ∈ks.flatMap JkC,Jh σ' κ=Jh σ κ)→Ji5 σ' ks=Ji5 σ ks
 |[],_=>rfl
 | c::r,h=>by
  simp only[Ji5]
  have hc:∀κ∈JkC c,Jh σ' κ=Jh σ κ:=fun κ hκ=>h κ (by simp only[List.flatMap_cons,List.mem_append];exact .inl hκ)
  rw[Jc9 fun κ hκ=>h κ (by simp only[List.flatMap_cons,List.mem_append];exact .inr hκ)]
  rw[Jfx (hc _ (by obtain⟨κ,m⟩:=c;cases m<;>simp[JkC])) fun κa hκa=>hc κa (by
   obtain⟨κ,m⟩:=c
   rcases hκa with h|⟨k,h⟩|h|⟨k,κ1,κ2,κ3,h,h'⟩
   ·simp only at h;subst h;simp[JkC]
   ·simp only at h;subst h;simp[JkC]
   ·simp only at h;subst h;simp[JkC]
   ·simp only at h;subst h;simp only[JkC,List.mem_cons,List.not_mem_nil,or_false];rcases h' with rfl|rfl|rfl<;>simp)]
end Go.Gw

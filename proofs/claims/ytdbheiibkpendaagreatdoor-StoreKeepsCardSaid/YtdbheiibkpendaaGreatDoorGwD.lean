/- Memory that leads to memory: each operation, the second part. -/
import Derived.Test.YtdbheiibkpendaaGreatDoorGwC
import Derived.MapKept
namespace Go.Gw
open Go.RowKit
variable {P:Program} {T:TypeId→Option TD} {B:Nat→Prop} {N:Nat} {w0:W0} {γ:Nat→Value} {σ:Stt} {a:Act} {w:World}
theorem Inv.arTurn (I:Inv B N w0 γ σ a w) {κ κ':Nat} {bs:List Nat} {H H2:AH} {s2:Value} {w':World} (names:List (Nat×MV))
  (hk:σ (.h κ)=some (.e (.arena true bs H))) (hf:NoKey κ' σ) (ar:Ar w' s2 H2) (pre:SkPre (γ κ) s2) (hn:∀p∈names,NoKey p.1 σ∧p.2.bd≤H2.length) (hd:(names.map (·.1)).Nodup) (hκ:κ'∉names.map (·.1))
  (hb:BelowX (fun b=>w.heap.size≤b∨Ve (γ κ) H b) w w') (hfoot:∀b,Ve s2 H2 b→w.heap.size≤b∨Ve (γ κ) H b):
  ∃γ',(∀p∈names,γ' p.1=p.2.den s2)∧Inv B N w0 γ' (Wl σ ((κ',.arena true (κ::bs) H2)::(κ,.dead)::JbT κ' names)) a w':=by
 have up:∀b,(w.heap.size≤b∨Ve (γ κ) H b)→YM σ γ w (fun x=>x=κ∨x∈([]:List Nat)) b:=fun b h=>by
  rcases h with h|h
  ·exact .inl h
  ·exact .inr ⟨κ,_,.inl rfl,hk,h⟩
 obtain⟨γ',_,g2,I'⟩:=I.arMove (names:=names) [] hk hf ar pre (by simp) (by simp) (fun p hp=>⟨.inl (hn p hp).1,(hn p hp).2⟩) hd hκ (by simp) (hb.mono fun b _ h=>up b h) (fun b hb'=>up b (hfoot b hb'))
 exact⟨γ',g2,I'⟩
theorem Yi {s:Value} {H:AH} {v:MV} {j n:Nat} (h:Ar w s H) (hok:AH.ok H v j n=true) (hn:1≤n):∃b o,JM (v.den s) j= .pointer (some ⟨b,o,none⟩):=by
 obtain⟨b,o,_,_,q,_⟩:=QM h hok hn
 exact⟨b,o,q⟩
theorem JcF {x:Value} {off:Nat}:JM (JM x off) 0=JM x off:=by
 cases x with
 |pointer ad=>cases ad<;>simp[JM,Addr.add]
 |slice ad n c=>cases ad<;>simp[JM,Addr.add]
 |_=>rfl
theorem QK {v:MV} (h:v.isP=true) (s:Value):JM (v.den s) 0=v.den s:=by
 cases v with
 |ptr i off=>exact JcF
 |_=>cases h
theorem QI {v:Value} {i j b o:Nat} (h:JM v i= .pointer (some ⟨b,o,none⟩)) (hs:∀ad,(v= .pointer (some ad)∨∃n c,v= .slice (some ad) n c)→ad.spot=none):JM v (i+j)= .pointer (some ⟨b,o+j,none⟩):=by
 rw[←Jj1 v i j ⟨b,o,h⟩ hs,h]
 simp only[JM,Jn]
theorem JbK {s:Value} {H:AH} {v:MV} (h:Ar w s H) {j n:Nat} (hok:AH.ok H v j n=true) (hn:1≤n):∀ad,(v.den s= .pointer (some ad)∨∃n c,v.den s= .slice (some ad) n c)→ad.spot=none:=by
 obtain⟨b,o,c,ty,q1,q2,q3,q4,_⟩:=QM h hok hn
 have hsp:∀ad,(YG s v.ob= .pointer (some ad)∨∃n c,YG s v.ob= .slice (some ad) n c)→ad.spot=none:=fun ad had=>by
  have hob:=h.obj _ (WN q4)
  generalize AH.at H v.ob=ob at hob q4
  cases ob with
  |cells ty l=>
   obtain⟨b',h1,_⟩:=hob
   rcases had with had|⟨n,c,had⟩<;>rw[h1] at had<;>cases had
   rfl
  | row e sz l=>
   obtain⟨n,_,_,⟨h1,_⟩|⟨b',off,cap,c,h1,_⟩⟩:=hob
   ·rcases had with had|⟨n,c,had⟩<;>rw[h1] at had<;>cases had
   ·rcases had with had|⟨n,c,had⟩<;>rw[h1] at had<;>cases had
    rfl
  |map l=>
   obtain⟨b',es,clock,h1,_⟩:=hob
   rcases had with had|⟨n,c,had⟩<;>rw[h1] at had<;>cases had
  |dead=>cases q4
 have addsp:∀(ad:Addr) (k:Nat),ad.spot=none→(ad.add k).spot=none:=fun ad k h=>by unfold Addr.add;split<;>simp[h]
 intro ad had
 cases v with
 | ptr i off=>
  simp only[MV.den,MV.ob] at had hsp
  cases hv:YG s i with
  | pointer x=>cases x with
   |none=>rw[hv] at had;simp[JM] at had
   |some x=>
    rw[hv] at had
    simp[JM] at had
    rw[←had]
    exact addsp _ _ (hsp x (.inl hv))
  | slice x n c=>cases x with
   |none=>rw[hv] at had;simp[JM] at had
   |some x=>
    rw[hv] at had
    simp[JM] at had
    rw[←had]
    exact addsp _ _ (hsp x (.inr ⟨n,c,hv⟩))
  |_=>rw[hv] at had;simp[JM] at had
 | slc i sz lo k=>
  simp only[MV.den,MV.ob] at had hsp
  cases hv:YG s i with
  | slice x n c=>cases x with
   |none=>rw[hv] at had;simp[JcD] at had
   | some x=>
    rw[hv] at had
    simp only[JcD] at had
    rcases had with had|⟨n',c',had⟩
    ·cases had
    ·simp only[Value.slice.injEq,Option.some.injEq] at had
     rw[←had.1]
     split
     ·exact hsp x (.inr ⟨n,c,hv⟩)
     ·exact addsp _ _ (hsp x (.inr ⟨n,c,hv⟩))
  |_=>rw[hv] at had;simp[JcD] at had
 |_=>simp[AH.ok] at hok
theorem Jma (I:Inv B N w0 γ σ a w) {κ:Nat} {ns:List Nat} {rw':Bool} {bs:List Nat} {H:AH} (hk:σ (.h κ)=some (.e (.arena rw' bs H))) {x:Operand} {eff:Eff}
  (h:arS T σ κ ns rw' bs H (.nilCheck x)=some eff) (hn:eff.need):∃ad,a.eval x= .pointer (some ad)∧Post B N w0 σ a eff (a.eval x) w:=by
 simp only[arS] at h
 have a1:=(I.ent _ _ hk).1
 split at h
 ·rename_i κ' hx
  cases ha:Xp σ κ bs κ' with
  |none=>simp[ha] at h
  |some v=>
   simp only[ha,Option.bind_some,Vp,Option.some.injEq] at h
   subst h
   obtain⟨q1,q2⟩:v.isP=true∧AH.ok H v 0 1=true:=hn
   obtain⟨b,o,q3⟩:=Yi a1 q2 (Nat.le_refl 1)
   rw[QK q1] at q3
   have e1:a.eval x=γ κ':=(I.eval hx).1
   exact⟨_,by rw[e1,(JT I hk ha).1,q3],γ,e1,⟨trivial,trivial⟩,I⟩
 ·rename_i κ' sz i off hx
  cases ha:Xp σ κ bs κ' with
  |none=>simp[ha] at h
  |some v=>
   simp only[ha,Option.bind_some,Vp,Option.some.injEq] at h
   subst h
   have q2:AH.ok H v (i.toNat*sz+off) 1=true:=hn
   obtain⟨b,o,q3⟩:=Yi a1 q2 (Nat.le_refl 1)
   have e1:=I.eval hx
   refine⟨_,by rw[e1.1];show JM (γ κ') _=_;rw[(JT I hk ha).1,q3],γ,e1.1,e1.2,I⟩
 ·cases h
theorem JjM (hT:TOk P T) (I:Inv B N w0 γ σ a w) {κ:Nat} {ns:List Nat} {rw':Bool} {bs:List Nat} {H:AH} (hk:σ (.h κ)=some (.e (.arena rw' bs H))) {t:TypeId} {x:Operand} {f:Nat} {eff:Eff}
  (h:arS T σ κ ns rw' bs H (.fieldAddr t x f)=some eff) (hn:eff.need):∃v,(Instr.fieldAt t (a.eval x) f).run P w= .ok v w∧Post B N w0 σ a eff v w:=by
 simp only[arS] at h
 have a1:=(I.ent _ _ hk).1
 have go:∀{n:Nat} {offs:List (Nat×Nat)} {z:List Leaf} {oo os b o:Nat},T t=some (.struct n offs z)→offs[f]? =some (oo,os)→1≤os→a.eval x= .pointer (some ⟨b,o,none⟩)→
   (Instr.fieldAt t (a.eval x) f).run P w= .ok (.pointer (some ⟨b,o+oo,none⟩)) w:=fun hd hof hs e1=>by
  obtain⟨fs,t1,t2,_⟩:=hT t _ hd
  obtain⟨fl,hfl,i,hi1,hi2,hi3⟩:=JaF t2 f hof
  have hsz:i.size≠0:=by omega
  have hfl':fs[f]? =some fl:=by simpa using hfl
  rw[e1]
  simp[Instr.fieldAt,run_underlying t1,hfl',Instr.sureAddr,fieldPlace,Vz (P:=P) (t:=fl.type) (n:=i.size) (by simp[hi1]),hsz,Jn,hi2]
 split at h
 ·rename_i n offs z κ' hd hx
  cases hof:offs[f]? with
  |none=>simp[hof] at h
  | some o=>
   obtain⟨oo,os⟩:=o
   simp only[hof,Option.bind_some] at h
   cases hs:Nat.ble 1 os with
   |false=>simp[hs] at h
   | true=>
    simp only[hs,cond_true] at h
    cases ha:Xp σ κ bs κ' with
    |none=>simp[ha] at h
    |some v=>
     simp only[ha,Option.bind_some,Vp,Option.some.injEq] at h
     subst h
     obtain⟨q1,q2⟩:v.isP=true∧AH.ok H v 0 1=true:=hn
     obtain⟨b,o,q3⟩:=Yi a1 q2 (Nat.le_refl 1)
     have q4:=QI (j:=oo) q3 (JbK a1 q2 (Nat.le_refl 1))
     rw[QK q1] at q3
     have e0:=(JT I hk ha).1
     have e1:a.eval x= .pointer (some ⟨b,o,none⟩):=by rw[(I.eval hx).1];show γ κ'=_;rw[e0,q3]
     refine⟨_,go hd hof (Nat.le_of_ble_eq_true hs) e1,γ,?_,⟨Int.le_refl 0,trivial⟩,I⟩
     show _=JM (γ κ') ((0:Int).toNat*1+oo)
     rw[e0]
     simpa using q4.symm
 ·rename_i n offs z κ' sz i off hd hx
  cases hof:offs[f]? with
  |none=>simp[hof] at h
  | some o=>
   obtain⟨oo,os⟩:=o
   simp only[hof,Option.bind_some] at h
   cases hs:Nat.ble 1 os with
   |false=>simp[hs] at h
   | true=>
    simp only[hs,cond_true] at h
    cases ha:Xp σ κ bs κ' with
    |none=>simp[ha] at h
    |some v=>
     simp only[ha,Option.bind_some,Vp,Option.some.injEq] at h
     subst h
     have q2:AH.ok H v (i.toNat*sz+off) 1=true:=hn
     obtain⟨b,o,q3⟩:=Yi a1 q2 (Nat.le_refl 1)
     have q4:=QI (j:=oo) q3 (JbK a1 q2 (Nat.le_refl 1))
     have e0:=(JT I hk ha).1
     have ex:=I.eval hx
     have e1:a.eval x= .pointer (some ⟨b,o,none⟩):=by rw[ex.1];show JM (γ κ') _=_;rw[e0,q3]
     refine⟨_,go hd hof (Nat.le_of_ble_eq_true hs) e1,γ,?_,⟨ex.2.1,trivial⟩,I⟩
     show _=JM (γ κ') (i.toNat*sz+(off+oo))
     rw[e0,←Nat.add_assoc]
     exact q4.symm
 ·cases h
theorem Xz {d:TD} {t e:TypeId} {sz:Nat} (hT:d.ok P t) (h:Yp (some d)=some (e,sz)):
  P.underlying t=some (.slice e)∧∃i z,P.info? e=some i∧i.size=sz∧i.zero=some z∧z.cells.size=sz∧i.bytes≤128∧0<sz:=by
 cases d with
 | slice e' k=>
  simp only[Yp,Option.some.injEq,Prod.mk.injEq] at h
  obtain⟨rfl,rfl⟩:=h
  obtain⟨t1,t2,t3,t4⟩:=hT
  cases hq:P.info? e' with
  |none=>simp[hq] at t3
  |some i=>
   simp[hq] at t3
   obtain⟨q1,q2,q3⟩:=t3
   refine⟨t1,i,_,rfl,q1,q3,rfl,?_,by omega⟩
   rw[q2];cases k<;>simp[cst]
 |sliceR e' sz'=>
  simp only[Yp,Option.some.injEq,Prod.mk.injEq] at h
  obtain⟨rfl,rfl⟩:=h
  obtain⟨t1,i,z,h1,h2,h3,h4,h5,h6,h7⟩:=VZ hT
  exact⟨t1,i,z,h1,h2,h3,h4,h5,h6⟩
 |_=>cases h
theorem Yq {s:Value} {H:AH} {v:MV} {sz:Nat} (h:Ar w s H) (hr:AH.isRow H sz v=true) (hsz:0<sz) (hb:v.bd≤H.length):
  ∃ad cap,v.den s= .slice ad v.len cap∧v.len≤cap∧(0<v.len→ad.isSome=true):=by
 cases v with
 |nils=>exact⟨none,0,rfl,Nat.le_refl _,fun h=>by cases h⟩
 | slc i s' lo n=>
  obtain⟨rfl,e,l,hl,hle⟩:=Yc hr
  simp only[MV.bd] at hb
  have hob:=h.obj i (by omega)
  rw[hl] at hob
  obtain⟨m,h1,h0,⟨h2,h3⟩|⟨b,off,cap,c,h2,h3,h4,h5,h6,h7,h8⟩⟩:=hob
  ·subst h3
   rw[Nat.zero_mul] at h1
   have hn:n*s'=0:=by omega
   have hn:n=0:=by
    rcases Nat.mul_eq_zero.1 hn with h|h
    ·exact h
    ·omega
   subst hn
   exact⟨none,0,by simp[MV.den,h2,JcD,MV.len],Nat.le_refl _,fun h=>by simp[MV.len] at h⟩
  ·have hle2:lo+n≤m:=by
    have:(lo+n)*s'≤m*s':=by rw[Nat.add_mul];omega
    exact Nat.le_of_mul_le_mul_right this hsz
   exact⟨_,cap-lo,by simp only[MV.den,h2,JcD,MV.len];rfl,by simp only[MV.len];omega,fun _=>rfl⟩
 |_=>cases hr
theorem JfC (I:Inv B N w0 γ σ a w) {κ κ1:Nat} {rw':Bool} {bs:List Nat} {H:AH} {v:MV} {sz:Nat} (hk:σ (.h κ)=some (.e (.arena rw' bs H))) (h:wvS σ κ bs κ1=some v) (hr:AH.isRow H sz v=true) (hsz:0<sz):
  v.bd≤H.length∧∃ad cap,γ κ1= .slice ad v.len cap∧v.len≤cap∧(0<v.len→γ κ1=v.den (γ κ)∧ad.isSome=true):=by
 obtain⟨h1,h2⟩:=Jl7 I hk h
 refine⟨h1,?_⟩
 rcases h2 with h2|⟨h2,o,c,h3⟩
 ·obtain⟨ad,cap,c1,c2,c3⟩:=Yq (I.ent _ _ hk).1 hr hsz h1
  exact⟨ad,cap,h2.trans c1,c2,fun hp=>⟨h2,c3 hp⟩⟩
 ·exact⟨o,c,by rw[h3,h2],by omega,fun hp=>by omega⟩
end Go.Gw

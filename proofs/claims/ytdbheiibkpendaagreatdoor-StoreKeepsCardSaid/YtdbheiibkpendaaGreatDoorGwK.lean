/- Rows of records, read; slices of slices in memory. -/
import Derived.Test.YtdbheiibkpendaaGreatDoorGwJ
namespace Go.Gw
open Go.RowKit Go.MapKept
variable {P:Program} {T:TypeId→Option TD} {B:Nat→Prop} {N:Nat} {w0:W0} {γ:Nat→Value} {σ:Stt} {a:Act} {w:World}
set_option linter.unusedVariables false in
theorem Jh4 (hT:TOk P T) (I:Inv B N w0 γ σ a w) {ks:List GK} (hf:∀κ∈ks.flatMap GK.keys,NoKey κ σ) (hnd:(ks.flatMap GK.keys).Nodup) {o:Oper} {eff:Eff} (h:gnS T σ ks o.op=some eff) (hn:eff.need):
  RunOk P (execOp a.eval o) w (Post B N w0 σ a eff):=by simp[gnS] at h
theorem Jih (hT:TOk P T) (I:Inv B N w0 γ σ a w) {κ:Nat} {ns:List Nat} {rw':Bool} {bs:List Nat} {H:AH} (hk:σ (.h κ)=some (.e (.arena rw' bs H))) (hf:∀κ∈ns,NoKey κ σ) {o:Oper} {eff:Eff}
  (h:arW T σ κ ns bs H o.op=some eff) (hn:eff.need):RunOk P (execOp a.eval o) w (Post B N w0 σ a eff):=by
 obtain⟨dst,op,ty,pos,after,guard⟩:=o
 cases op with
 | slice t x lo hi mx=>
  cases mx with
  |some m=>simp[arW] at h
  | none =>
   simp only[arW] at h
   have a1:=(I.ent _ _ hk).1
   split at h
   ·rename_i es κv κ' l hh he hx hlo hhi
    obtain⟨e,sz⟩:=es
    cases ha:wvS σ κ bs κ' with
    |none=>simp[ha] at h
    | some v=>
     simp only[ha,Option.bind_some] at h
     split at h
     ·rename_i m n hb1 hb2
      simp only[Option.some.injEq] at h
      subst h
      obtain⟨⟨c1,c2,c3⟩,q2⟩:(0≤m∧m≤n∧n≤v.len)∧AH.isRow H sz v=true:=hn
      cases hd:T t with
      |none=>rw[hd] at he;cases he
      | some d=>
       rw[hd] at he
       obtain⟨t1,inf,z,i1,i2,i3,i4,i5,i6⟩:=Xz (hT t _ hd) he
       obtain⟨e0',ad,cap,g1,g2,g3⟩:=JfC I hk ha q2 i6
       have hs:∀w,(sizeOf e).run P w= .ok sz w:=fun w=>Vz (P:=P) (t:=e) (n:=sz) (by simp[i1,i2]) w
       have e1:a.eval x= .slice ad v.len cap:=by rw[(I.eval hx).1];exact g1
       have b1:=Jf1 I hlo hb1
       have b2:=Jf1 I hhi hb2
       have hr:=VT (P:=P) (ad:=ad) (len:=v.len) (cap:=cap) t1 hs b1 b2 c1 c2 (by omega) w
       rw[←e1] at hr
       have bd:(v.sub m.toNat n.toNat).bd≤H.length:=by cases v<;>first|exact e0'|(cases q2;done)
       have hlen:(v.sub m.toNat n.toNat).len=n.toNat-m.toNat:=by
        cases v with
        |slc i s lo k=>rfl
        |nils=>simp only[MV.len] at c3;simp only[MV.sub,MV.len];omega
        |_=>cases q2
       generalize hres:Value.slice (if cap=m.toNat then ad else ad.map (·.add (m.toNat*sz))) (n.toNat-m.toNat) (cap-m.toNat)=res at hr
       have Jz:res.oneCell'=true:=by rw[←hres];rfl
       have hat:(Ent.wv κ (v.sub m.toNat n.toNat)).at B (fun y=>if y=κv then res else γ y) w κv:=by
        have hkv:κ≠κv:=fun e=>by have:=(hf κv (by simp)).1;rw[←e,hk] at this;cases this
        simp only[Ent.at,if_pos,if_neg hkv]
        refine⟨by rw[a1.len];exact bd,?_⟩
        rw[hlen]
        by_cases h0:n.toNat-m.toNat=0
        ·exact .inr ⟨h0,_,_,by rw[←hres,h0]⟩
        ·left
         refine⟨by omega,?_⟩
         obtain⟨g4,g5⟩:=g3 (by omega)
         cases v with
         | slc i s lo k=>
          obtain⟨rfl,e',l',hl,hle⟩:=Yc q2
          simp only[MV.bd] at e0'
          have hob:=a1.obj i (by omega)
          rw[hl] at hob
          simp only[MV.len] at c3 g1 g2
          obtain⟨mm,r1,r0,⟨r2,r3⟩|⟨b,off,cap',c,r2,r3,r4,r5,r6,r7,r8⟩⟩:=hob
          ·subst r3
           rw[Nat.zero_mul] at r1
           have:k*s=0:=by omega
           rcases Nat.mul_eq_zero.1 this with h|h<;>omega
          ·have hk1:lo+k≤mm:=by
            have:(lo+k)*s≤mm*s:=by rw[Nat.add_mul];omega
            exact Nat.le_of_mul_le_mul_right this r0
           have g6:=g4
           rw[g1] at g6
           simp only[MV.den,r2,JcD,Value.slice.injEq] at g6
           obtain⟨g7,_,g8⟩:=g6
           rw[←hres]
           simp only[MV.sub,MV.den,r2,JcD]
           rw[g7,g8,if_neg (show ¬cap'=lo by omega),if_neg (show ¬cap'-lo=m.toNat by omega),if_neg (show ¬cap'=lo+m.toNat by omega)]
           simp only[Option.map_some,Jn,Nat.add_mul,Value.slice.injEq,Option.some.injEq,Addr.mk.injEq,and_true,true_and]
           omega
         |nils=>simp only[MV.len] at c3;omega
         |_=>cases q2
       have hex:execOp a.eval ⟨dst,.slice t x lo hi none,ty,pos,after,guard⟩=(do pure (.value (←Instr.sliceAt t (a.eval x) (lo.map a.eval) (hi.map a.eval) none))):=rfl
       rw[hex]
       refine Jm hr ⟨fun y=>if y=κv then res else γ y,by simp[SV.den,V1.den,Leaf.cells],⟨trivial,trivial⟩,I.alias (hf κv (by simp)) Jz rfl hat fun b hb=>hb.elim⟩
     ·cases h
   ·cases h
 |_=>simp[arW] at h
theorem Jhm (hT:TOk P T) (I:Inv B N w0 γ σ a w) {o:Oper} {eff:Eff} (h:pnS T σ o.op=some eff):RunOk P (execOp a.eval o) w (Post B N w0 σ a eff):=by
 obtain⟨dst,op,ty,pos,after,guard⟩:=o
 have hpn:∀κ',pnK σ κ'=true→∃b o,γ κ'= .pointer (some ⟨b,o,none⟩):=fun κ' hp=>by
  unfold pnK at hp
  split at hp
  ·rename_i κa v hk;exact(I.key hk).2.2.2
  ·cases hp
 cases op with
 | nilCheck x=>
  simp only[pnS] at h
  have fin:∀{v:SV} {ad:Addr},Jg σ x=some v→v.den γ= .pointer (some ad)→Ju v=some eff→RunOk P (execOp a.eval ⟨dst,.nilCheck x,ty,pos,after,guard⟩) w (Post B N w0 σ a eff):=by
   intro v ad hv hd he
   simp only[Ju,Option.some.injEq] at he
   subst he
   have e1:=I.eval hv
   have hex:execOp a.eval ⟨dst,.nilCheck x,ty,pos,after,guard⟩=pure (.value (a.eval x)):=by simp only[execOp,e1.1,hd]
   rw[hex]
   exact RunOk.pureV ⟨γ,e1.1,e1.2,I⟩
  split at h
  ·rename_i κ' hx
   cases hp:pnK σ κ' with
   |false=>simp[hp] at h
   |true=>
    simp only[hp,cond_true] at h
    obtain⟨b,o,hv⟩:=hpn κ' hp
    exact fin hx (ad:=⟨b,o,none⟩) (by show γ κ'=_;exact hv) h
  ·rename_i κ' sz i off hx
   cases hp:pnK σ κ' with
   |false=>simp[hp] at h
   |true=>
    simp only[hp,cond_true] at h
    obtain⟨b,o,hv⟩:=hpn κ' hp
    exact fin hx (ad:=⟨b,o+(i.toNat*sz+off),none⟩) (by show JM (γ κ') _=_;rw[hv];simp only[JM,Jn]) h
  ·cases h
 | fieldAddr t x f=>
  simp only[pnS] at h
  have go:∀{n:Nat} {offs:List (Nat×Nat)} {z:List Leaf} {oo os b o:Nat},T t=some (.struct n offs z)→offs[f]? =some (oo,os)→1≤os→a.eval x= .pointer (some ⟨b,o,none⟩)→
    (Instr.fieldAt t (a.eval x) f).run P w= .ok (.pointer (some ⟨b,o+oo,none⟩)) w:=fun hd hof hs e1=>by
   obtain⟨fs,t1,t2,_⟩:=hT t _ hd
   obtain⟨fl,hfl,i,hi1,hi2,hi3⟩:=JaF t2 f hof
   have hsz:i.size≠0:=by omega
   have hfl':fs[f]? =some fl:=by simpa using hfl
   rw[e1]
   simp[Instr.fieldAt,run_underlying t1,hfl',Instr.sureAddr,fieldPlace,Vz (P:=P) (t:=fl.type) (n:=i.size) (by simp[hi1]),hsz,Jn,hi2]
  split at h
  ·rename_i n offs z κ' hd hx
   cases hof:offs[f]? with
   |none=>simp[hof] at h
   | some o=>
    obtain⟨oo,os⟩:=o
    simp only[hof,Option.bind_some] at h
    cases hs:(Nat.ble 1 os&&pnK σ κ') with
    |false=>simp[hs] at h
    |true=>
     simp only[hs,cond_true,Ju,Option.some.injEq] at h
     subst h
     simp only[Bool.and_eq_true] at hs
     obtain⟨b,o,hv⟩:=hpn κ' hs.2
     have e1:a.eval x= .pointer (some ⟨b,o,none⟩):=by rw[(I.eval hx).1];exact hv
     refine Jm (go hd hof (Nat.le_of_ble_eq_true hs.1) e1) ⟨γ,?_,⟨Int.le_refl 0,trivial⟩,I⟩
     show _=JM (γ κ') ((0:Int).toNat*1+oo)
     rw[hv]
     simp only[JM,Jn]
     simp
  ·rename_i n offs z κ' sz i off hd hx
   cases hof:offs[f]? with
   |none=>simp[hof] at h
   | some o=>
    obtain⟨oo,os⟩:=o
    simp only[hof,Option.bind_some] at h
    cases hs:(Nat.ble 1 os&&pnK σ κ') with
    |false=>simp[hs] at h
    |true=>
     simp only[hs,cond_true,Ju,Option.some.injEq] at h
     subst h
     simp only[Bool.and_eq_true] at hs
     obtain⟨b,o,hv⟩:=hpn κ' hs.2
     have ex:=I.eval hx
     have e1:a.eval x= .pointer (some ⟨b,o+(i.toNat*sz+off),none⟩):=by rw[ex.1];show JM (γ κ') _=_;rw[hv];simp only[JM,Jn]
     refine Jm (go hd hof (Nat.le_of_ble_eq_true hs.1) e1) ⟨γ,?_,⟨ex.2.1,trivial⟩,I⟩
     show _=JM (γ κ') (i.toNat*sz+(off+oo))
     rw[hv]
     simp only[JM,Jn,Nat.add_assoc]
  ·cases h
 |_=>simp[pnS] at h
end Go.Gw
namespace Go.Gw
variable {T:TypeId→Option TD} {σ σ':Stt}
theorem JaI {κ:Nat} (h:Jh σ' κ=Jh σ κ):pnK σ' κ=pnK σ κ:=by unfold pnK;rw[h]
theorem Jhp {op:Op} (hs:∀x∈op.operands,Jg σ' x=Jg σ x)
  (hk:∀x∈op.operands,∀v,Jg σ x=some v→∀κ∈v.keys,Jh σ' κ=Jh σ κ):pnS T σ' op=pnS T σ op:=by
 cases op with
 |nilCheck x=>
  simp only[pnS]
  rw[hs x (by simp[Op.operands])]
  split
  ·rename_i hx;rw[JaI (hk x (by simp[Op.operands]) _ hx _ (by simp[SV.keys,V1.keys,V1.keys.lk]))]
  ·rename_i hx;rw[JaI (hk x (by simp[Op.operands]) _ hx _ (by simp[SV.keys,V1.keys,V1.keys.lk]))]
  ·rfl
 |fieldAddr t x f=>
  simp only[pnS]
  rw[hs x (by simp[Op.operands])]
  split
  ·rename_i hx;rw[JaI (hk x (by simp[Op.operands]) _ hx _ (by simp[SV.keys,V1.keys,V1.keys.lk]))]
  ·rename_i hx;rw[JaI (hk x (by simp[Op.operands]) _ hx _ (by simp[SV.keys,V1.keys,V1.keys.lk]))]
  ·rfl
 |_=>rfl
theorem JiL {κ:Nat} {ns:List Nat} {bs:List Nat} {H:AH} {op:Op} (hs:∀x∈op.operands,Jg σ' x=Jg σ x)
  (hk:∀x∈op.operands,∀v,Jg σ x=some v→∀κ∈v.keys,Jh σ' κ=Jh σ κ):arW T σ' κ ns bs H op=arW T σ κ ns bs H op:=by
 cases op with
 | slice t x lo hi mx=>
  cases mx with
  |some m=>rfl
  | none=>
   simp only[arW]
   have ho:∀o:Option Operand,(∀y,o=some y→Jg σ' y=Jg σ y)→Jbm σ' o=Jbm σ o:=fun o h=>by
    cases o with
    |none=>rfl
    |some y=>simp only[Jbm];rw[h y rfl]
   rw[hs x (by simp[Op.operands]),ho lo fun y hy=>hs y (by simp[Op.operands,hy]),ho hi fun y hy=>hs y (by simp[Op.operands,hy])]
   split
   ·rename_i hx _ _
    rw[Jee (hk x (by simp[Op.operands]) _ hx _ (by simp[SV.keys,V1.keys,V1.keys.lk]))]
   ·rfl
 |_=>rfl
end Go.Gw

/- The row of the law StoreKeeps, out of its walk and its plain statement. -/
import Derived.Test.YtdbheiibkpendaaGreatDoorRows
import Derived.Test.YtdbheiibkpendaaGreatDoorCards
import Derived.Test.YtdbheiibkpendaaGreatDoorTie
import Derived.SevenTiedAt
import Derived.Test.YtdbheiibkpendaaGreatDoorMSeFx
import Derived.Test.YtdbheiibkpendaaGreatDoorGw12
import Derived.Test.YtdbheiibkpendaaGreatDoorSeV6
import Derived.Test.YtdbheiibkpendaaGreatDoorMStI
import Derived.Test.YtdbheiibkpendaaGreatDoorMSeFx
namespace Go.Proofs.YtdbheiibkpendaaGreatDoor.storeKeeps
open Go Go.Gw Go.ChangeShapes Go.WideShapes Go.ChangeAt Go.RowKit Go.Proofs.Se Go.Proofs.Se.D Go.Proofs.YtdbheiibkpendaaGreatDoor
set_option linter.unusedVariables false
theorem own:ownKnob Tryz.prog.godebug=none:=by kernel_rfl
theorem Jh1:laidOutB Tryz.prog=true:=by kernel_rfl
set_option maxRecDepth 100000 in
theorem Jnt (w:World) (a0:List (Int×List Int)) (a1:Int) (a2:List (Int×List Int)) (v0:Value) (rd0:RdR w v0 (.rc a0)) (one0:v0.oneCell'=true) (wf0:(∀r∈a0,(Lit.int .i64 r.1).wf=true∧∀x∈r.2,(Lit.int .u8 x).wf=true)) (wf1:(Lit.int .i64 a1).wf=true) (v2:Value) (rd2:RdR w v2 (.rc a2)) (one2:v2.oneCell'=true) (wf2:(∀r∈a2,(Lit.int .i64 r.1).wf=true∧∀x∈r.2,(Lit.int .u8 x).wf=true)) (hg:w.cell? ⟨0,0,none⟩=some hv):
    Calls Tryz.prog 4 #[v0,.int .i64 a1,v2] w fun e w'=>e= .returned (.bool true)∧Below w.heap.size w w':=by
  have h:=Go.St.StoreKeeps a0 a1 a2 wf0 wf1 wf2
  have h1:∀κ,(Jh8 [(9000,v0),(9001,v2),(9999,Value.nilIface)] κ).oneCell'=true:=JiR (by
    intro p hp
    simp only[List.mem_cons,List.not_mem_nil,or_false] at hp
    rcases hp with rfl|rfl|rfl
    ·exact one0
    ·exact one2
    ·exact rfl
    )
  have hc:=Jeh (P:=Tryz.prog) Tryz.func4 (by kernel_rfl) rfl (Jaq a0 a1 a2 true h) (by
    intro x hx
    simp only[List.mem_cons,List.not_mem_nil,or_false] at hx
    rcases hx with rfl|rfl|rfl
    ·exact⟨trivial,trivial⟩
    ·exact⟨trivial,trivial⟩
    ·exact⟨trivial,trivial⟩
    ) (Jh8 [(9000,v0),(9001,v2),(9999,Value.nilIface)]) h1 w (by
    intro p hp
    simp only[List.mem_cons,List.not_mem_nil,or_false] at hp
    rcases hp with rfl|rfl|rfl
    ·exact rd0
    ·exact rd2
    ·exact hg
    ) (by
    intro p hp
    simp only[List.mem_cons,List.not_mem_nil,or_false] at hp
    rcases hp with rfl|rfl|rfl<;>rfl
    )
  exact hc
set_option maxRecDepth 100000 in
theorem JmE (os:Os) (started:os.Started) (H:Type) (enc:TypeId×Value→H):
    ReturnsInHanded {} Tryz.checked os 4 .any (fun w args=>(Rows.storeKeepsSpec.pre enc Tryz.prog Tryz.f4 Rows.storeKeepsRow.domain false w args∧laidMetH Tryz.prog [("errors.errorType",Rows.laid_errors_errorType)] w)∧sizedMet enc Tryz.prog Tryz.f4 (OpenSpec.ofChange Rows.storeKeepsSpec) false w args) (Rows.storeKeepsSpec.post enc Tryz.prog Tryz.f4 false true false false):=by
  refine returnsInHanded_of_change_and (C:=Tryz.checked) (X:=fun w _=>laidMetH Tryz.prog [("errors.errorType",Rows.laid_errors_errorType)] w) (fun _ _ _ hh h=>h.of_heap hh) own started (by kernel_rfl) Tryz.func4
    (ChangeSpec.witness_at (enc:=enc) (C:=Tryz.checked) (os:=os) (X:=fun w _=>laidMetH Tryz.prog [("errors.errorType",Rows.laid_errors_errorType)] w) false (Jek os) #[.slice none 0 0,.int .i64 0,.slice none 0 0] 8 rfl (by kernel_rfl) (by kernel_rfl) (by kernel_rfl) (by kernel_rfl) (by kernel_rfl) (JdE os _)) ?_
  intro W base args ds gs before hval0 hW hcnd hsz0 hL _
  have hval:∀(j:Nat) t v,Tryz.f4.params[j]? =some t→args[j]? =some v→Value.okWide Tryz.prog W .any base t v:=hval0
  have hW':=hW
  obtain⟨p,q,hA0,hV,rfl,hfz,hnd⟩:=hW
  have hA:DataW.TrodAll enc Tryz.prog W 0 (fun _=>true) true Tryz.f4.params.toList args.toList ds p:=hA0
  rw[Tryz.params4] at hA hval
  obtain⟨v0,vs0,d0,ds0,p0,q0,hargs,rfl,rfl,h0,r0⟩:=trodAll_cons hA
  obtain⟨v1,vs1,d1,ds1,p1,q1,rfl,rfl,rfl,h1,r1⟩:=trodAll_cons r0
  obtain⟨v2,vs2,d2,ds2,p2,q2,rfl,rfl,rfl,h2,r2⟩:=trodAll_cons r1
  obtain⟨rfl,rfl,rfl⟩:=trodAll_nil r2
  obtain rfl:args= #[v0,v1,v2]:=by cases args;simp_all
  obtain⟨rfl,rfl⟩:=trodVars_none hV
  have k0:=h0
  have lt0:∀x∈p0,x.block<W.heap.size:=by obtain⟨m,hm⟩:=k0;exact DataW.trod_lt m _ _ _ hm
  obtain⟨a0,rd0,one0,wf0⟩:=JeD Tryz.underlying30 Tryz.underlying37 Tryz.underlying3 Tryz.underlying35 Tryz.underlying5 (by kernel_rfl) (by kernel_rfl) rfl rfl (by kernel_rfl) (by kernel_rfl) (hval 0 30 v0 rfl rfl) h0
  obtain⟨a1,rfl,rfl,rfl,wf1⟩:=open_int Tryz.underlying3 (hval 1 3 v1 rfl rfl) h1
  have k2:=h2
  have lt2:∀x∈p2,x.block<W.heap.size:=by obtain⟨m,hm⟩:=k2;exact DataW.trod_lt m _ _ _ hm
  obtain⟨a2,rd2,one2,wf2⟩:=JeD Tryz.underlying30 Tryz.underlying37 Tryz.underlying3 Tryz.underlying35 Tryz.underlying5 (by kernel_rfl) (by kernel_rfl) rfl rfl (by kernel_rfl) (by kernel_rfl) (hval 2 30 v2 rfl rfl) h2
  have hg:=JcE hL
  clear hA0 hval0 hsz0
  refine(Jnt W a0 a1 a2 v0 rd0 one0 wf0 wf1 v2 rd2 one2 wf2 hg).mono fun e W' ⟨he,bel⟩=> ?_
  subst he
  exact⟨_,rfl,_,_,_,[],_,[],hW',trodAll_mk1 (shut_bool Tryz.underlying4 _),(trodAll_cons_mk (Below.trod Jh1 (by kernel_rfl) (of_decide_eq_true (by kernel_rfl)) k0 bel lt0) (trodAll_cons_mk (shut_int Tryz.underlying3 wf1) (trodAll_cons_mk (Below.trod Jh1 (by kernel_rfl) (of_decide_eq_true (by kernel_rfl)) k2 bel lt2) trodAll_mk0))),rfl,bel.frame _,fun h=>by cases h⟩
theorem cl:Tryz.prog.closure 4=[4,12,7,8,10,43,41,65,73,47,74,88,89,75,77,78,67,84,95,101,90,44,56,38,72,87,71,85,96,86,98,111,112,97,102,108,118,103,113,104,114,115,105,116,117,119,106,107,109,110,81,32,68,15,55,51,82,30,48,45,76,91,92,93,94,99,100,13,49,50,28,66,52,79,20,57,59,58,83,18,11,16,17,36,19]:=JgO Fx.adj_eq Fx.fuel_eq (by kernel_rfl)
theorem un:Tryz.prog.unfollowed 4=true:=(Jdk Fx.un_eq cl).trans (by kernel_rfl)
set_option maxRecDepth 100000 in
theorem Jne:joinedFacts Tryz.prog 4 Tryz.f4 Rows.storeKeepsSpec Rows.storeKeepsRow=true:=by
  delta joinedFacts
  repeat' (with_reducible refine Jnw ?_ ?_)
  ·as_aux_lemma=>kernel_rfl
  ·as_aux_lemma=>kernel_rfl
  ·as_aux_lemma=>kernel_rfl
  ·as_aux_lemma=>kernel_rfl
  ·as_aux_lemma=>kernel_rfl
  ·as_aux_lemma=>kernel_rfl
  ·as_aux_lemma=>kernel_rfl
  ·as_aux_lemma=>kernel_rfl
  ·as_aux_lemma=>kernel_rfl
  ·exact Jer (JgY Fx.inp_eq cl) (by kernel_rfl)
  ·exact Jer un (by kernel_rfl)
  ·exact Jer (Jfy un) (by kernel_rfl)
  ·exact Jer (Jd7 Fx.gl_eq Fx.er_eq cl) (by kernel_rfl)
  ·as_aux_lemma=>kernel_rfl
  ·as_aux_lemma=>kernel_rfl
  ·as_aux_lemma=>kernel_rfl
  ·as_aux_lemma=>kernel_rfl
  ·as_aux_lemma=>kernel_rfl
  ·as_aux_lemma=>kernel_rfl
  ·as_aux_lemma=>kernel_rfl
  ·as_aux_lemma=>kernel_rfl
  ·as_aux_lemma=>kernel_rfl
  ·as_aux_lemma=>kernel_rfl
  ·as_aux_lemma=>kernel_rfl
  ·as_aux_lemma=>kernel_rfl
  ·exact Fx.mayEnter
  ·exact Jer Fx.lifts (by kernel_rfl)
  ·rw[Fx.make];kernel_rfl
  ·as_aux_lemma=>kernel_rfl
  ·as_aux_lemma=>kernel_rfl
  ·as_aux_lemma=>kernel_rfl
  ·as_aux_lemma=>kernel_rfl
theorem JnA:Rows.storeKeepsRow.holds Tryz.pinned (OpenSpec.ofChange Rows.storeKeepsSpec):=
  OpenClaim.holds_of_wide 4 Tryz.f4 rfl rfl rfl rfl rfl rfl rfl ⟨rfl,rfl,rfl,rfl,rfl⟩ rfl rfl rfl rfl rfl (by kernel_rfl) Tryz.func4 Jne
    (of_decide_eq_true (by kernel_rfl)) (by unfold Func.isWrapper;first|(rw [if_pos (by decide+kernel)];kernel_rfl)|(rw [if_neg (by decide+kernel)];exact⟨rfl,rfl⟩))
    (fun os started H enc _=>JmE os started H enc)
theorem tied:Rows.StoreKeepsCardSaid:=
  Claim7.holds_tied_plain_at .later [] [.handle] true (true, "40bf68659dab2b002f3ad2084feaca9eab23fcd22f40224fe6b1f8b434f10095") true
    JnA (fun _ h=>by cases h) (by kernel_rfl) (fun _ h=>by cases h) storeKeeps_row_tie rfl ⟨rfl,rfl⟩ (by kernel_rfl) rfl
    (fun f fn hf hfn=>by
      obtain rfl:f=4:=Option.some.inj ((show Tryz.prog.funcNamed "codicil/codicillaw16.StoreKeeps"=some 4 by kernel_rfl).symm.trans hf)|>.symm
      obtain rfl:fn=Tryz.f4:=(Option.some.inj (Tryz.func4.symm.trans hfn)).symm
      refine⟨by kernel_rfl,fun j t ht=> ?_⟩
      rw[Tryz.params4] at ht
      match j with
      |0=>obtain rfl:=Option.some.inj (show some _=some t from ht);exact(show Tryz.prog.wantsStandIn 30=false by kernel_rfl)
      |1=>obtain rfl:=Option.some.inj (show some _=some t from ht);exact(show Tryz.prog.wantsStandIn 3=false by kernel_rfl)
      |2=>obtain rfl:=Option.some.inj (show some _=some t from ht);exact(show Tryz.prog.wantsStandIn 30=false by kernel_rfl)
      |j+3=>simp at ht)
    (by kernel_rfl)
end Go.Proofs.YtdbheiibkpendaaGreatDoor.storeKeeps
namespace Go.Proofs.YtdbheiibkpendaaGreatDoor
/-- The statement, as it is given. -/
theorem storeKeeps_holds:Rows.StoreKeepsCardSaid:=storeKeeps.tied
#print axioms storeKeeps_holds
end Go.Proofs.YtdbheiibkpendaaGreatDoor

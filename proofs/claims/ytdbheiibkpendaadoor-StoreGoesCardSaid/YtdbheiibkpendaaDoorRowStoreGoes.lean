/- The row of the law StoreGoes, out of its walk and its plain statement. -/
import Derived.Test.YtdbheiibkpendaaDoorRows
import Derived.Test.YtdbheiibkpendaaDoorCards
import Derived.Test.YtdbheiibkpendaaDoorTie
import Derived.SevenTiedAt
import Derived.Test.YtdbheiibkpendaaDoorSeH
import Derived.Test.YtdbheiibkpendaaDoorGw12
import Derived.Test.YtdbheiibkpendaaDoorSeV4
import Derived.Test.YtdbheiibkpendaaDoorMStI
import Derived.Test.YtdbheiibkpendaaDoorSeFx
namespace Go.Proofs.YtdbheiibkpendaaDoor.storeGoes
open Go Go.Gw Go.ChangeShapes Go.WideShapes Go.ChangeAt Go.RowKit Go.Proofs.Se Go.Proofs.Se.D Go.Proofs.YtdbheiibkpendaaDoor
set_option linter.unusedVariables false
theorem own:ownKnob Tryd.prog.godebug=none:=by kernel_rfl
theorem Jiu:laidOutB Tryd.prog=true:=by kernel_rfl
set_option maxRecDepth 100000 in
theorem Jna (w:World) (a0:List (Int×List Int)) (a1:List Int) (v0:Value) (rd0:RdR w v0 (.rc a0)) (one0:v0.oneCell'=true) (wf0:(∀r∈a0,(Lit.int .i64 r.1).wf=true∧∀x∈r.2,(Lit.int .u8 x).wf=true)) (v1:Value) (rd1:RdI w v1 .i64 a1) (one1:v1.oneCell'=true) (wf1:∀x∈a1,(Lit.int .i64 x).wf=true) (hg:w.cell? ⟨0,0,none⟩=some hv):
    Calls Tryd.prog 4 #[v0,v1] w fun e w'=>e= .returned (.bool true)∧Below w.heap.size w w':=by
  have h:=Go.St.StoreGoes a0 a1 wf0 wf1
  have h1:∀κ,(Jhm [(9000,v0),(9001,v1),(9999,Value.nilIface)] κ).oneCell'=true:=JhX (by
    intro p hp
    simp only[List.mem_cons,List.not_mem_nil,or_false] at hp
    rcases hp with rfl|rfl|rfl
    ·exact one0
    ·exact one1
    ·exact rfl
    )
  have hc:=JdR (P:=Tryd.prog) Tryd.func4 (by kernel_rfl) rfl (Jay a0 a1 true h) (by
    intro x hx
    simp only[List.mem_cons,List.not_mem_nil,or_false] at hx
    rcases hx with rfl|rfl
    ·exact⟨trivial,trivial⟩
    ·exact⟨trivial,trivial⟩
    ) (Jhm [(9000,v0),(9001,v1),(9999,Value.nilIface)]) h1 w (by
    intro p hp
    simp only[List.mem_cons,List.not_mem_nil,or_false] at hp
    rcases hp with rfl|rfl|rfl
    ·exact rd0
    ·exact rd1
    ·exact hg
    ) (by
    intro p hp
    simp only[List.mem_cons,List.not_mem_nil,or_false] at hp
    rcases hp with rfl|rfl|rfl<;>rfl
    )
  exact hc
set_option maxRecDepth 100000 in
theorem JlJ (os:Os) (started:os.Started) (H:Type) (enc:TypeId×Value→H):
    ReturnsInHanded {} Tryd.checked os 4 .any (fun w args=>(Rows.storeGoesSpec.pre enc Tryd.prog Tryd.f4 Rows.storeGoesRow.domain false w args∧laidMetH Tryd.prog [("errors.errorType",Rows.laid_errors_errorType)] w)∧sizedMet enc Tryd.prog Tryd.f4 (OpenSpec.ofChange Rows.storeGoesSpec) false w args) (Rows.storeGoesSpec.post enc Tryd.prog Tryd.f4 false true false false):=by
  refine returnsInHanded_of_change_and (C:=Tryd.checked) (X:=fun w _=>laidMetH Tryd.prog [("errors.errorType",Rows.laid_errors_errorType)] w) (fun _ _ _ hh h=>h.of_heap hh) own started (by kernel_rfl) Tryd.func4
    (ChangeSpec.witness_at (enc:=enc) (C:=Tryd.checked) (os:=os) (X:=fun w _=>laidMetH Tryd.prog [("errors.errorType",Rows.laid_errors_errorType)] w) false (Jem os) #[.slice none 0 0,.slice none 0 0] 8 rfl (by kernel_rfl) (by kernel_rfl) (by kernel_rfl) (by kernel_rfl) (by kernel_rfl) (Jdt os _)) ?_
  intro W base args ds gs before hval0 hW hcnd hsz0 hL _
  have hval:∀(j:Nat) t v,Tryd.f4.params[j]?=some t→args[j]?=some v→Value.okWide Tryd.prog W .any base t v:=hval0
  have hW':=hW
  obtain⟨p,q,hA0,hV,rfl,hfz,hnd⟩:=hW
  have hA:DataW.TrodAll enc Tryd.prog W 0 (fun _=>true) true Tryd.f4.params.toList args.toList ds p:=hA0
  rw[Tryd.params4] at hA hval
  obtain⟨v0,vs0,d0,ds0,p0,q0,hargs,rfl,rfl,h0,r0⟩:=trodAll_cons hA
  obtain⟨v1,vs1,d1,ds1,p1,q1,rfl,rfl,rfl,h1,r1⟩:=trodAll_cons r0
  obtain⟨rfl,rfl,rfl⟩:=trodAll_nil r1
  obtain rfl:args= #[v0,v1]:=by cases args;simp_all
  obtain⟨rfl,rfl⟩:=trodVars_none hV
  have k0:=h0
  have lt0:∀x∈p0,x.block<W.heap.size:=by obtain⟨m,hm⟩:=k0;exact DataW.trod_lt m _ _ _ hm
  obtain⟨a0,rd0,one0,wf0⟩:=Jh6 Tryd.underlying28 Tryd.underlying34 Tryd.underlying3 Tryd.underlying31 Tryd.underlying5 (by kernel_rfl) (by kernel_rfl) rfl rfl (by kernel_rfl) (by kernel_rfl) (hval 0 28 v0 rfl rfl) h0
  have k1:=h1
  have lt1:∀x∈p1,x.block<W.heap.size:=by obtain⟨m,hm⟩:=k1;exact DataW.trod_lt m _ _ _ hm
  obtain⟨a1,rd1,one1,wf1⟩:=JiP (k:= .i64) Tryd.underlying22 Tryd.underlying3 (by kernel_rfl) (hval 1 22 v1 rfl rfl) h1
  have hg:=Jcv hL
  clear hA0 hval0 hsz0
  refine(Jna W a0 a1 v0 rd0 one0 wf0 v1 rd1 one1 wf1 hg).mono fun e W' ⟨he,bel⟩=> ?_
  subst he
  exact⟨_,rfl,_,_,_,[],_,[],hW',trodAll_mk1 (shut_bool Tryd.underlying4 _),(trodAll_cons_mk (Below.trod Jiu (by kernel_rfl) (of_decide_eq_true (by kernel_rfl)) k0 bel lt0) (trodAll_cons_mk (Below.trod Jiu (by kernel_rfl) (of_decide_eq_true (by kernel_rfl)) k1 bel lt1) trodAll_mk0)),rfl,bel.frame _,fun h=>by cases h⟩
theorem cl:Tryd.prog.closure 4=[4,16,17,8,9,26,27,13,39,40,32,46,57,58,47,50,51,44,56,67,73,59,28,48,12,38,55,37,53,68,54,70,83,84,69,74,80,90,75,85,76,86,87,77,88,89,91,78,79,81,82,60,61,45,19,42,33,62,24,41,29,49,63,64,65,66,71,72,10,30,31,23,43,34,52,18,20,21,14,22,15]:=JgH Fx.adj_eq Fx.fuel_eq (by kernel_rfl)
theorem un:Tryd.prog.unfollowed 4=true:=(JcY Fx.un_eq cl).trans (by kernel_rfl)
set_option maxRecDepth 100000 in
theorem JmM:joinedFacts Tryd.prog 4 Tryd.f4 Rows.storeGoesSpec Rows.storeGoesRow=true:=by
  delta joinedFacts
  repeat' (with_reducible refine Jm7 ?_ ?_)
  ·as_aux_lemma=>kernel_rfl
  ·as_aux_lemma=>kernel_rfl
  ·as_aux_lemma=>kernel_rfl
  ·as_aux_lemma=>kernel_rfl
  ·as_aux_lemma=>kernel_rfl
  ·as_aux_lemma=>kernel_rfl
  ·as_aux_lemma=>kernel_rfl
  ·as_aux_lemma=>kernel_rfl
  ·as_aux_lemma=>kernel_rfl
  ·exact JdF (JgI Fx.inp_eq cl) (by kernel_rfl)
  ·exact JdF un (by kernel_rfl)
  ·exact JdF (JeH un) (by kernel_rfl)
  ·exact JdF (Jd2 Fx.gl_eq Fx.er_eq cl) (by kernel_rfl)
  ·as_aux_lemma=>kernel_rfl
  ·as_aux_lemma=>kernel_rfl
  ·as_aux_lemma=>kernel_rfl
  ·as_aux_lemma=>kernel_rfl
  ·as_aux_lemma=>kernel_rfl
  ·as_aux_lemma=>kernel_rfl
  ·as_aux_lemma=>kernel_rfl
  ·as_aux_lemma=>kernel_rfl
  ·as_aux_lemma=>kernel_rfl
  ·as_aux_lemma=>kernel_rfl
  ·as_aux_lemma=>kernel_rfl
  ·as_aux_lemma=>kernel_rfl
  ·exact Fx.mayEnter
  ·exact JdF Fx.lifts (by kernel_rfl)
  ·rw[Fx.make];kernel_rfl
  ·as_aux_lemma=>kernel_rfl
  ·as_aux_lemma=>kernel_rfl
  ·as_aux_lemma=>kernel_rfl
  ·as_aux_lemma=>kernel_rfl
theorem Jm3:Rows.storeGoesRow.holds Tryd.pinned (OpenSpec.ofChange Rows.storeGoesSpec):=
  OpenClaim.holds_of_wide 4 Tryd.f4 rfl rfl rfl rfl rfl rfl rfl ⟨rfl,rfl,rfl,rfl,rfl⟩ rfl rfl rfl rfl rfl (by kernel_rfl) Tryd.func4 JmM
    (of_decide_eq_true (by kernel_rfl)) (by unfold Func.isWrapper;first|(rw [if_pos (by decide+kernel)];kernel_rfl)|(rw [if_neg (by decide+kernel)];exact⟨rfl,rfl⟩))
    (fun os started H enc _=>JlJ os started H enc)
theorem tied:Rows.StoreGoesCardSaid:=
  Claim7.holds_tied_plain_at .later [] [.handle] true (true, "3f056b3fcca47b5bbead811d32a9d5103f039e02a98200fe07798123ae5c440c") true
    Jm3 (fun _ h=>by cases h) (by kernel_rfl) (fun _ h=>by cases h) storeGoes_row_tie rfl ⟨rfl,rfl⟩ (by kernel_rfl) rfl
    (fun f fn hf hfn=>by
      obtain rfl:f=4:=Option.some.inj ((show Tryd.prog.funcNamed "codicil/codicillaw16.StoreGoes"=some 4 by kernel_rfl).symm.trans hf)|>.symm
      obtain rfl:fn=Tryd.f4:=(Option.some.inj (Tryd.func4.symm.trans hfn)).symm
      refine⟨by kernel_rfl,fun j t ht=> ?_⟩
      rw[Tryd.params4] at ht
      match j with
      |0=>obtain rfl:=Option.some.inj (show some _=some t from ht);exact(show Tryd.prog.wantsStandIn 28=false by kernel_rfl)
      |1=>obtain rfl:=Option.some.inj (show some _=some t from ht);exact(show Tryd.prog.wantsStandIn 22=false by kernel_rfl)
      |j+2=>simp at ht)
    (by kernel_rfl)
end Go.Proofs.YtdbheiibkpendaaDoor.storeGoes
namespace Go.Proofs.YtdbheiibkpendaaDoor
/-- The statement, as it is given. -/
theorem storeGoes_holds:Rows.StoreGoesCardSaid:=storeGoes.tied
#print axioms storeGoes_holds
end Go.Proofs.YtdbheiibkpendaaDoor

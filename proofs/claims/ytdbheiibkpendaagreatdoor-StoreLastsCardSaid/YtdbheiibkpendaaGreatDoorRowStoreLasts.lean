/- The row of the law StoreLasts, out of its walk and its plain statement. -/
import Derived.Test.YtdbheiibkpendaaGreatDoorRows
import Derived.Test.YtdbheiibkpendaaGreatDoorCards
import Derived.Test.YtdbheiibkpendaaGreatDoorTie
import Derived.SevenTiedAt
import Derived.Test.YtdbheiibkpendaaGreatDoorSeH
import Derived.Test.YtdbheiibkpendaaGreatDoorMGwL0
import Derived.Test.YtdbheiibkpendaaGreatDoorSeV5
import Derived.Test.YtdbheiibkpendaaGreatDoorMStI
import Derived.Test.YtdbheiibkpendaaGreatDoorSeFx
namespace Go.Proofs.YtdbheiibkpendaaGreatDoor.storeLasts
open Go Go.Gw Go.ChangeShapes Go.WideShapes Go.ChangeAt Go.RowKit Go.Proofs.Se Go.Proofs.Se.D Go.Proofs.YtdbheiibkpendaaGreatDoor
set_option linter.unusedVariables false
theorem own:ownKnob Tryz.prog.godebug=none:=by kernel_rfl
theorem Jip:laidOutB Tryz.prog=true:=by kernel_rfl
set_option maxRecDepth 100000 in
theorem JoC (w:World) (a0:List (List DL)) (a1:List Bool) (a2:Int) (a3:Int) (a4:Int) (v0:Value) (rd0:RdR w v0 (.gn 8 a0)) (one0:v0.oneCell'=true) (wf0:(∀r∈a0,LKs [.int .i64,.int .i64,.bytes .u8 5,.int .i64,.bytes .u8 5,.bools 4,.int .i64,.int .i64] r)) (v1:Value) (rd1:RdB w v1 a1) (one1:v1.oneCell'=true) (wf2:(Lit.int .i64 a2).wf=true) (wf3:(Lit.int .i64 a3).wf=true) (wf4:(Lit.int .i64 a4).wf=true) (hg:w.cell? ⟨0,0,none⟩=some hv):
    Calls Tryz.prog 3 #[v0,v1,.int .i64 a2,.int .i64 a3,.int .i64 a4] w fun e w'=>e= .returned (.bool true)∧Below w.heap.size w w':=by
  have h:=Go.St.StoreLasts a0 a1 a2 a3 a4 wf0 wf2 wf3 wf4
  have h1:∀κ,(Jic [(9000,v0),(9001,v1),(9999,Value.nilIface)] κ).oneCell'=true:=JiE (by
    intro p hp
    simp only[List.mem_cons,List.not_mem_nil,or_false] at hp
    rcases hp with rfl|rfl|rfl
    ·exact one0
    ·exact one1
    ·exact rfl
    )
  have hc:=Jey (P:=Tryz.prog) Tryz.func3 (by kernel_rfl) rfl (JaD a0 a1 a2 a3 a4 true h) (by
    intro x hx
    simp only[List.mem_cons,List.not_mem_nil,or_false] at hx
    rcases hx with rfl|rfl|rfl|rfl|rfl
    ·exact⟨trivial,trivial⟩
    ·exact⟨trivial,trivial⟩
    ·exact⟨trivial,trivial⟩
    ·exact⟨trivial,trivial⟩
    ·exact⟨trivial,trivial⟩
    ) (Jic [(9000,v0),(9001,v1),(9999,Value.nilIface)]) h1 w (by
    intro p hp
    simp only[List.mem_cons,List.not_mem_nil,or_false] at hp
    rcases hp with rfl|rfl|rfl
    ·exact rd0
    ·exact rd1
    ·exact hg
    ) (by
    intro p hp
    simp only[List.mem_cons,List.not_mem_nil,or_false] at hp
    rcases hp with rfl|rfl|rfl<;>rfl
    )
  exact hc
set_option maxRecDepth 100000 in
theorem Jm0 (os:Os) (started:os.Started) (H:Type) (enc:TypeId×Value→H):
    ReturnsInHanded {} Tryz.checked os 3 .any (fun w args=>(Rows.storeLastsSpec.pre enc Tryz.prog Tryz.f3 Rows.storeLastsRow.domain false w args∧laidMetH Tryz.prog [("errors.errorType",Rows.laid_errors_errorType)] w)∧sizedMet enc Tryz.prog Tryz.f3 (OpenSpec.ofChange Rows.storeLastsSpec) false w args) (Rows.storeLastsSpec.post enc Tryz.prog Tryz.f3 false true false false):=by
  refine returnsInHanded_of_change_and (C:=Tryz.checked) (X:=fun w _=>laidMetH Tryz.prog [("errors.errorType",Rows.laid_errors_errorType)] w) (fun _ _ _ hh h=>h.of_heap hh) own started (by kernel_rfl) Tryz.func3
    (ChangeSpec.witness_at (enc:=enc) (C:=Tryz.checked) (os:=os) (X:=fun w _=>laidMetH Tryz.prog [("errors.errorType",Rows.laid_errors_errorType)] w) false (Jea os) #[.slice none 0 0,.slice none 0 0,.int .i64 0,.int .i64 0,.int .i64 0] 8 rfl (by kernel_rfl) (by kernel_rfl) (by kernel_rfl) (by kernel_rfl) (by kernel_rfl) (JdL os _)) ?_
  intro W base args ds gs before hval0 hW hcnd hsz0 hL _
  have hval:∀(j:Nat) t v,Tryz.f3.params[j]?=some t→args[j]?=some v→Value.okWide Tryz.prog W .any base t v:=hval0
  have hW':=hW
  obtain⟨p,q,hA0,hV,rfl,hfz,hnd⟩:=hW
  have hA:DataW.TrodAll enc Tryz.prog W 0 (fun _=>true) true Tryz.f3.params.toList args.toList ds p:=hA0
  rw[Tryz.params3] at hA hval
  obtain⟨v0,vs0,d0,ds0,p0,q0,hargs,rfl,rfl,h0,r0⟩:=trodAll_cons hA
  obtain⟨v1,vs1,d1,ds1,p1,q1,rfl,rfl,rfl,h1,r1⟩:=trodAll_cons r0
  obtain⟨v2,vs2,d2,ds2,p2,q2,rfl,rfl,rfl,h2,r2⟩:=trodAll_cons r1
  obtain⟨v3,vs3,d3,ds3,p3,q3,rfl,rfl,rfl,h3,r3⟩:=trodAll_cons r2
  obtain⟨v4,vs4,d4,ds4,p4,q4,rfl,rfl,rfl,h4,r4⟩:=trodAll_cons r3
  obtain⟨rfl,rfl,rfl⟩:=trodAll_nil r4
  obtain rfl:args= #[v0,v1,v2,v3,v4]:=by cases args;simp_all
  obtain⟨rfl,rfl⟩:=trodVars_none hV
  have k0:=h0
  have lt0:∀x∈p0,x.block<W.heap.size:=by obtain⟨m,hm⟩:=k0;exact DataW.trod_lt m _ _ _ hm
  obtain⟨a0,rd0,one0,wf0⟩:=Jks (ks:=[.int .i64,.int .i64,.bytes .u8 5,.int .i64,.bytes .u8 5,.bools 4,.int .i64,.int .i64]) Tryz.underlying22 (by kernel_rfl) (Jby (g:=[[.int .i64],[.int .i64,.bytes .u8 5],[.int .i64],[.bytes .u8 5],[.bools 4],[.int .i64],[.int .i64]]) Tryz.underlying39 rfl (by
      intro i f l h1 h2
      match i with
      |0=>obtain rfl:=Option.some.inj (show some _=some f from h1);obtain rfl:=Option.some.inj (show some _=some l from h2);exact⟨rfl,by kernel_rfl,(XN Tryz.underlying3)⟩
      | 1=>obtain rfl:=Option.some.inj (show some _=some f from h1);obtain rfl:=Option.some.inj (show some _=some l from h2);exact⟨rfl,by kernel_rfl,(Jby (g:=[[.int .i64],[.bytes .u8 5]]) Tryz.underlying37 rfl (by
        intro i f l h1 h2
        match i with
        |0=>obtain rfl:=Option.some.inj (show some _=some f from h1);obtain rfl:=Option.some.inj (show some _=some l from h2);exact⟨rfl,by kernel_rfl,(XN Tryz.underlying3)⟩
        |1=>obtain rfl:=Option.some.inj (show some _=some f from h1);obtain rfl:=Option.some.inj (show some _=some l from h2);exact⟨rfl,by kernel_rfl,(XN ⟨Tryz.underlying35,Tryz.underlying5,by kernel_rfl⟩)⟩
        |n+2=>cases h2))⟩
      |2=>obtain rfl:=Option.some.inj (show some _=some f from h1);obtain rfl:=Option.some.inj (show some _=some l from h2);exact⟨rfl,by kernel_rfl,(XN Tryz.underlying3)⟩
      |3=>obtain rfl:=Option.some.inj (show some _=some f from h1);obtain rfl:=Option.some.inj (show some _=some l from h2);exact⟨rfl,by kernel_rfl,(XN ⟨Tryz.underlying35,Tryz.underlying5,by kernel_rfl⟩)⟩
      |4=>obtain rfl:=Option.some.inj (show some _=some f from h1);obtain rfl:=Option.some.inj (show some _=some l from h2);exact⟨rfl,by kernel_rfl,(XN ⟨Tryz.underlying23,Tryz.underlying4,by kernel_rfl⟩)⟩
      |5=>obtain rfl:=Option.some.inj (show some _=some f from h1);obtain rfl:=Option.some.inj (show some _=some l from h2);exact⟨rfl,by kernel_rfl,(XN Tryz.underlying3)⟩
      |6=>obtain rfl:=Option.some.inj (show some _=some f from h1);obtain rfl:=Option.some.inj (show some _=some l from h2);exact⟨rfl,by kernel_rfl,(XN Tryz.underlying3)⟩
      |n+7=>cases h2)) (hval 0 22 v0 rfl rfl) h0
  have k1:=h1
  have lt1:∀x∈p1,x.block<W.heap.size:=by obtain⟨m,hm⟩:=k1;exact DataW.trod_lt m _ _ _ hm
  obtain⟨a1,rd1,one1⟩:=JgU Tryz.underlying23 Tryz.underlying4 (by kernel_rfl) (hval 1 23 v1 rfl rfl) h1
  obtain⟨a2,rfl,rfl,rfl,wf2⟩:=open_int Tryz.underlying3 (hval 2 3 v2 rfl rfl) h2
  obtain⟨a3,rfl,rfl,rfl,wf3⟩:=open_int Tryz.underlying3 (hval 3 3 v3 rfl rfl) h3
  obtain⟨a4,rfl,rfl,rfl,wf4⟩:=open_int Tryz.underlying3 (hval 4 3 v4 rfl rfl) h4
  have hg:=JcO hL
  clear hA0 hval0 hsz0
  refine(JoC W a0 a1 a2 a3 a4 v0 rd0 one0 wf0 v1 rd1 one1 wf2 wf3 wf4 hg).mono fun e W' ⟨he,bel⟩=> ?_
  subst he
  exact⟨_,rfl,_,_,_,[],_,[],hW',trodAll_mk1 (shut_bool Tryz.underlying4 _),(trodAll_cons_mk (Below.trod Jip (by kernel_rfl) (of_decide_eq_true (by kernel_rfl)) k0 bel lt0) (trodAll_cons_mk (Below.trod Jip (by kernel_rfl) (of_decide_eq_true (by kernel_rfl)) k1 bel lt1) (trodAll_cons_mk (shut_int Tryz.underlying3 wf2) (trodAll_cons_mk (shut_int Tryz.underlying3 wf3) (trodAll_cons_mk (shut_int Tryz.underlying3 wf4) trodAll_mk0))))),rfl,bel.frame _,fun h=>by cases h⟩
theorem cl:Tryz.prog.closure 3=[3,6,7,8,10,43,41,65,73,47,74,88,89,75,77,78,67,84,95,101,90,44,56,38,72,87,71,85,96,86,98,111,112,97,102,108,118,103,113,104,114,115,105,116,117,119,106,107,109,110,81,32,68,15,55,51,82,30,48,45,76,91,92,93,94,99,100,9,46,11,12,13,49,50,28,66,52,79,14,53,34,80,54,63,36,17,16,18,19]:=JhA Fx.adj_eq Fx.fuel_eq (by kernel_rfl)
theorem un:Tryz.prog.unfollowed 3=true:=(Jdr Fx.un_eq cl).trans (by kernel_rfl)
set_option maxRecDepth 100000 in
theorem Jor:joinedFacts Tryz.prog 3 Tryz.f3 Rows.storeLastsSpec Rows.storeLastsRow=true:=by
  delta joinedFacts
  repeat' (with_reducible refine JoG ?_ ?_)
  ·as_aux_lemma=>kernel_rfl
  ·as_aux_lemma=>kernel_rfl
  ·as_aux_lemma=>kernel_rfl
  ·as_aux_lemma=>kernel_rfl
  ·as_aux_lemma=>kernel_rfl
  ·as_aux_lemma=>kernel_rfl
  ·as_aux_lemma=>kernel_rfl
  ·as_aux_lemma=>kernel_rfl
  ·as_aux_lemma=>kernel_rfl
  ·exact JeX (Jhe Fx.inp_eq cl) (by kernel_rfl)
  ·exact JeX un (by kernel_rfl)
  ·exact JeX (Jfz un) (by kernel_rfl)
  ·exact JeX (Jff Fx.gl_eq Fx.er_eq cl) (by kernel_rfl)
  ·as_aux_lemma=>kernel_rfl
  ·as_aux_lemma=>kernel_rfl
  ·as_aux_lemma=>kernel_rfl
  ·as_aux_lemma=>kernel_rfl
  ·as_aux_lemma=>kernel_rfl
  ·as_aux_lemma=>kernel_rfl
  ·as_aux_lemma=>kernel_rfl
  ·as_aux_lemma=>kernel_rfl
  ·as_aux_lemma=>kernel_rfl
  ·as_aux_lemma=>kernel_rfl
  ·as_aux_lemma=>kernel_rfl
  ·as_aux_lemma=>kernel_rfl
  ·exact Fx.mayEnter
  ·exact JeX Fx.lifts (by kernel_rfl)
  ·rw[Fx.make];kernel_rfl
  ·as_aux_lemma=>kernel_rfl
  ·as_aux_lemma=>kernel_rfl
  ·as_aux_lemma=>kernel_rfl
  ·as_aux_lemma=>kernel_rfl
theorem JoL:Rows.storeLastsRow.holds Tryz.pinned (OpenSpec.ofChange Rows.storeLastsSpec):=
  OpenClaim.holds_of_wide 3 Tryz.f3 rfl rfl rfl rfl rfl rfl rfl ⟨rfl,rfl,rfl,rfl,rfl⟩ rfl rfl rfl rfl rfl (by kernel_rfl) Tryz.func3 Jor
    (of_decide_eq_true (by kernel_rfl)) (by unfold Func.isWrapper;first|(rw [if_pos (by decide+kernel)];kernel_rfl)|(rw [if_neg (by decide+kernel)];exact⟨rfl,rfl⟩))
    (fun os started H enc _=>Jm0 os started H enc)
theorem tied:Rows.StoreLastsCardSaid:=
  Claim7.holds_tied_plain_at .later [] [.handle] true (true, "40bf68659dab2b002f3ad2084feaca9eab23fcd22f40224fe6b1f8b434f10095") true
    JoL (fun _ h=>by cases h) (by kernel_rfl) (fun _ h=>by cases h) storeLasts_row_tie rfl ⟨rfl,rfl⟩ (by kernel_rfl) rfl
    (fun f fn hf hfn=>by
      obtain rfl:f=3:=Option.some.inj ((show Tryz.prog.funcNamed "codicil/codicillaw16.StoreLasts"=some 3 by kernel_rfl).symm.trans hf)|>.symm
      obtain rfl:fn=Tryz.f3:=(Option.some.inj (Tryz.func3.symm.trans hfn)).symm
      refine⟨by kernel_rfl,fun j t ht=> ?_⟩
      rw[Tryz.params3] at ht
      match j with
      |0=>obtain rfl:=Option.some.inj (show some _=some t from ht);exact(show Tryz.prog.wantsStandIn 22=false by kernel_rfl)
      |1=>obtain rfl:=Option.some.inj (show some _=some t from ht);exact(show Tryz.prog.wantsStandIn 23=false by kernel_rfl)
      |2=>obtain rfl:=Option.some.inj (show some _=some t from ht);exact(show Tryz.prog.wantsStandIn 3=false by kernel_rfl)
      |3=>obtain rfl:=Option.some.inj (show some _=some t from ht);exact(show Tryz.prog.wantsStandIn 3=false by kernel_rfl)
      |4=>obtain rfl:=Option.some.inj (show some _=some t from ht);exact(show Tryz.prog.wantsStandIn 3=false by kernel_rfl)
      |j+5=>simp at ht)
    (by kernel_rfl)
end Go.Proofs.YtdbheiibkpendaaGreatDoor.storeLasts
namespace Go.Proofs.YtdbheiibkpendaaGreatDoor
/-- The statement, as it is given. -/
theorem storeLasts_holds:Rows.StoreLastsCardSaid:=storeLasts.tied
#print axioms storeLasts_holds
end Go.Proofs.YtdbheiibkpendaaGreatDoor

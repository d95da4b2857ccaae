/- The walk's engine, part 5e: rows whose parts are the function's own too. -/
import Derived.Test.YtdbheiibkpendaaGreatDoorGwU
namespace Go.Gw
open Go.RowKit
variable {P:Program} {T:TypeId→Option TD} {B:Nat→Prop} {N:Nat} {w0:W0} {γ:Nat→Value} {σ:Stt} {a:Act} {w:World}
theorem Jj9 {t e:TypeId} {sz:Nat} (hT:(TD.sliceR e sz).ok P t) {x:Value} {vs:List Value} (ex:x.cells.toList=vs) (hl:vs.length=sz):
  (Instr.buildSlice t 1 #[(0,x)]).run P w= .ok (.slice (some ⟨w.heap.size,0,none⟩) 1 1) (w.alloc (.cells vs.toArray e)):=by
 obtain⟨t1,i,z,hi,hisz,hz,hzs,_,hp,hp16⟩:=VZ hT
 have h24:¬(1*sz>2^24):=by omega
 have hz':∀w,(zeroValue e).run P w= .ok z w:=fun w=>by simp[zeroValue,typeInfo,hi,hz]
 have hs':∀w,(sizeOf e).run P w= .ok sz w:=fun w=>by simp[sizeOf,typeInfo,hi,hisz]
 have hf1:Instr.fill (fun i=>some (i*sz,sz)) ((Array.range (1*sz)).map (z.cells[·%z.cells.size]!)) [(0,x)]=some vs.toArray:=by
  have:=XI (fun i=>some (i*sz,sz)) (i:=0) (off:=0) (sz:=sz) (by simp) x [] ((Array.range (1*sz)).map (z.cells[·%z.cells.size]!)).toList [] [] rfl (by simp) (by rw[←Array.length_toList,ex,hl])
  simp only[List.append_nil,List.nil_append,Array.toArray_toList] at this
  rw[this]
  simp[Instr.fill,←ex]
 unfold Instr.buildSlice
 simp only[Sem.run_bind,run_underlying t1,Result.andThen_ok,hs',if_neg h24,if_neg (show ¬1*sz=0 by omega),hz',Sem.run_pure,hf1]
 simp[newRow]
theorem Jhg {sz n:Nat} {ps:List (Nat×Operand)} {ls:List Leaf} (h:Jlr σ sz n ps=some ls):
  (n=1∧∃x,ps=[(0,x)]∧Jg σ x=some (.v (.agg ls))∧ls.length=sz∧∀y∈ls,y.size=1)∨
  (n=2∧sz=1∧∃x y κ1 κ2,ps=[(0,x),(1,y)]∧Jg σ x=some (.v (.one (.slc κ1)))∧Jg σ y=some (.v (.one (.slc κ2)))∧ls=[.slc κ1,.slc κ2]):=by
 unfold Jlr at h
 split at h
 ·rename_i x
  left
  cases hn:Nat.beq n 1 with
  |false=>rw[hn] at h;cases h
  | true=>
   rw[hn] at h
   simp only[cond_true] at h
   refine⟨Nat.eq_of_beq_eq_true hn,x,rfl,?_⟩
   split at h
   ·rename_i ls' hx
    cases hc:(Nat.beq ls'.length sz&&ls'.all fun y=>Nat.beq y.size 1) with
    |false=>rw[hc] at h;cases h
    |true=>
     rw[hc] at h
     simp only[cond_true,Option.some.injEq] at h
     subst h
     simp only[Bool.and_eq_true,List.all_eq_true] at hc
     exact⟨hx,Nat.eq_of_beq_eq_true hc.1,fun y hy=>Nat.eq_of_beq_eq_true (hc.2 y hy)⟩
   ·cases h
 ·rename_i x y
  right
  cases hn:(Nat.beq n 2&&Nat.beq sz 1) with
  |false=>rw[hn] at h;cases h
  | true=>
   rw[hn] at h
   simp only[cond_true] at h
   simp only[Bool.and_eq_true] at hn
   split at h
   ·rename_i κ1 κ2 h1 h2
    cases h
    exact⟨Nat.eq_of_beq_eq_true hn.1,Nat.eq_of_beq_eq_true hn.2,x,y,κ1,κ2,rfl,h1,h2,rfl⟩
   ·cases h
 ·cases h
theorem Ys {κ':Nat} (hf:NoKey κ' σ) {x:Operand} {u:SV} (hx:Jg σ x=some u):∀κ∈u.keys,κ≠κ':=fun κ hκ eq=>by
 cases x with
 | tmp s=>
  have hsl:σ (.s s)=some (.v u):=by
   simp only[Jg,Jaj] at hx
   split at hx
   ·rename_i z hz;cases hx;exact hz
   ·cases hx
  exact hf.2.1 _ _ hsl (by rw[←eq];exact hκ)
 |const v=>
  simp only[Jg,JcV] at hx
  split at hx<;>first|(cases hx;cases hκ;done)|cases hx
 |func f=>simp only[Jg,Option.some.injEq] at hx;subst hx;cases hκ
 |global g=>simp[Jg] at hx
theorem JjN {t e:TypeId} (hT:(TD.sliceR e 1).ok P t) {x y:Value} (h1:x.oneCell'=true) (h2:y.oneCell'=true):
  (Instr.buildSlice t 2 #[(0,x),(1,y)]).run P w= .ok (.slice (some ⟨w.heap.size,0,none⟩) 2 2) (w.alloc (.cells #[x,y] e)):=by
 obtain⟨t1,i,z,hi,hisz,hz,hzs,_,hp,hp16⟩:=VZ hT
 have hz':∀w,(zeroValue e).run P w= .ok z w:=fun w=>by simp[zeroValue,typeInfo,hi,hz]
 have hs':∀w,(sizeOf e).run P w= .ok 1 w:=fun w=>by simp[sizeOf,typeInfo,hi,hisz]
 have cx:x.cells.toList=[x]:=by rw[Va h1]
 have cy:y.cells.toList=[y]:=by rw[Va h2]
 have hsx:x.cells.size=1:=by rw[Va h1];rfl
 have hsy:y.cells.size=1:=by rw[Va h2];rfl
 have hf1:∀u v:Value,Instr.fill (fun i=>some (i*1,1)) #[u,v] [(0,x),(1,y)]=some #[x,y]:=fun u v=>by
  have q1:=XI (fun i=>some (i*1,1)) (i:=0) (off:=0) (sz:=1) (by simp) x [] [u] [v] [(1,y)] rfl rfl hsx
  have q2:=XI (fun i=>some (i*1,1)) (i:=1) (off:=1) (sz:=1) (by simp) y [x] [v] [] [] rfl rfl hsy
  simp only[cx,cy,List.nil_append,List.cons_append,List.append_nil] at q1 q2
  have q3:(#[u,v]:Array Value)=[u,v].toArray:=rfl
  rw[q3,q1,q2]
  rfl
 unfold Instr.buildSlice
 simp only[Sem.run_bind,run_underlying t1,Result.andThen_ok,hs',if_neg (show ¬(2*1>2^24) by omega),if_neg (show ¬2*1=0 by omega),hz',Sem.run_pure]
 have hr:(Array.range (2*1)).map (z.cells[·%z.cells.size]!)= #[z.cells[0%z.cells.size]!,z.cells[1%z.cells.size]!]:=by
  have:Array.range (2*1)= #[0,1]:=rfl
  rw[this];simp
 rw[hr,hf1]
 simp[newRow]
theorem JgE (I:Inv B N w0 γ σ a w) {t e:TypeId} {sz n:Nat} (hT:(TD.sliceR e sz).ok P t) {κ':Nat} (hf:NoKey κ' σ) {ps:List (Nat×Operand)} {ls:List Leaf}
  (h:Jlr σ sz n ps=some ls) {p:List Prop}:
  ∃v w',(Instr.buildSlice t n (ps.map fun q=>(q.1,a.eval q.2)).toArray).run P w= .ok v w'∧Post B N w0 σ a ⟨some (.v (.one (.slc κ'))),[(κ',.lit e n ls)],p⟩ v w':=by
 have hg:=World.grownBy_alloc w (.cells (Jq γ ls).toArray e) none
 have fin:∀n,n≤maxLen→(∀y∈ls,y.ok)→(∀y∈ls,∀κ∈y.keys,κ≠κ')→Post B N w0 σ a ⟨some (.v (.one (.slc κ'))),[(κ',.lit e n ls)],p⟩ (.slice (some ⟨w.heap.size,0,none⟩) n n) (w.alloc (.cells (Jq γ ls).toArray e)):=by
  intro n hn hok hkeys
  refine⟨fun x=>if x=κ' then .slice (some ⟨w.heap.size,0,none⟩) n n else γ x,by simp[SV.den,V1.den,Leaf.cells],⟨trivial,trivial⟩,?_⟩
  have hc:Jq (fun x=>if x=κ' then .slice (some ⟨w.heap.size,0,none⟩) n n else γ x) ls=Jq γ ls:=Yj fun y hy κ hκ=>if_neg (hkeys y hy κ hκ)
  refine I.fresh hf rfl ⟨hg.os,hg.tape,hg.output,hg.size,fun b hb _=>hg.block b hb (by simp)⟩ ⟨w.heap.size,by simp,Nat.le_refl _,hn,?_,hok⟩ (by intro b hb;simp[Ent.foot,Jw] at hb;omega)
  rw[hc]
  exact heap_alloc_new w _
 rcases Jhg h with⟨rfl,x,rfl,hx,hl2,hs1⟩|⟨rfl,rfl,x,y,κ1,κ2,rfl,hx,hy,rfl⟩
 ·obtain⟨ex,hok⟩:=I.eval hx
  have hlen:(Jq γ ls).length=sz:=by
   rw[Vq hok,←hl2]
   clear h hx hl2 hg fin ex hok
   induction ls with
   |nil=>rfl
   |cons q r ih=>simp only[List.map_cons,List.sum_cons,List.length_cons,hs1 q (by simp),ih fun y hy=>hs1 y (by simp[hy])];omega
  have exl:(a.eval x).cells.toList=Jq γ ls:=by rw[ex];simp[SV.den,V1.den,Value.cells]
  refine⟨_,_,Jj9 hT exl hlen,fin 1 (by simp[maxLen]) hok fun y hy κ hκ=>Ys hf hx κ ?_⟩
  simp only[SV.keys,V1.keys,List.mem_flatMap]
  exact⟨y,hy,by rw[Jbz];exact hκ⟩
 ·have ex:a.eval x=γ κ1:=(I.eval hx).1
  have ey:a.eval y=γ κ2:=(I.eval hy).1
  have hr:=JjN (P:=P) (w:=w) hT (x:=γ κ1) (y:=γ κ2) (I.cell1 _) (I.cell1 _)
  refine⟨_,_,by simpa[ex,ey] using hr,?_⟩
  have:=fin 2 (by simp[maxLen]) (by intro y hy;simp at hy;rcases hy with rfl|rfl<;>trivial) fun q hq κ hκ=>by
   simp only[List.mem_cons,List.not_mem_nil,or_false] at hq
   rcases hq with rfl|rfl
   ·exact Ys hf hx κ (by simpa[SV.keys,V1.keys,V1.keys.lk,Leaf.keys] using hκ)
   ·exact Ys hf hy κ (by simpa[SV.keys,V1.keys,V1.keys.lk,Leaf.keys] using hκ)
  simpa[Jq,Leaf.cells] using this
theorem Ji6 {e:TypeId} {l:List Bool} {v:Value} (h:w.ownsRow 0 e 1 v l.length (l.map .bool)):RdB w v l:=by
 rcases h.2 with⟨h1,h2⟩|⟨g,cap,cur,hv,_,hg,hnc,hcm,hcs,htake⟩
 ·exact .inl ⟨⟨none,h1⟩,List.length_eq_zero_iff.1 h2⟩
 ·refine .inr ⟨⟨g,0,none⟩,cap,hv,hnc,hcm,(Array.getElem?_eq_some_iff.1 hg).1,rfl,fun i hi=> ?_⟩
  have:=h.cells (g:=g) (by rw[hv];rfl) i (.bool (l.getD i false)) (by simp[List.getD,hi])
  exact this
theorem FR.rd {v:Value} {e eb:TypeId} {r:RowsK} (h:FR B w v e eb 0 r):RdR w v r:=by
 obtain⟨xs,x1,x2,x3,x4,_,_⟩:=h
 rcases x1.2 with⟨hv,h0⟩|⟨g,cap,cur,hv,_,hg,hnc,hcm,hcs,htake⟩
 ·exact .inl ⟨hv,h0⟩
 ·refine .inr ⟨⟨g,0,none⟩,cap,hv,hnc,hcm,(Array.getElem?_eq_some_iff.1 hg).1,rfl,fun j d hd=> ?_⟩
  obtain⟨u,g1,g2⟩:=x4 j d (by omega) hd
  refine⟨u,x1.cells (g:=g) (by rw[hv];rfl) j u g1,x2 u (List.mem_of_getElem? g1),?_⟩
  cases d with
  |int k n=>exact g2
  |bytes k l=>exact Ql g2
  |bools l=>exact Ji6 g2
  |bool b=>exact g2
  |str s=>exact g2
end Go.Gw

/- Two library functions without bodies: their contracts. -/
import Derived.Test.YtdbheiibkpendaaGreatDoorGw10
import Derived.Test.YtdbheiibkpendaaGreatDoorGwI0
namespace Go.Gw
open Go.RowKit
def JlM:Array Value→Sem Value:=fun args=>do
 let (x,y,b) ←Extern.MathBitsCarry.three "Sub64" args
 pure (Extern.MathBitsCarry.pair ((x+Extern.MathBitsCarry.m64-y-b)%Extern.MathBitsCarry.m64) (if x<y+b then 1 else 0))
theorem JlY {P:Program} {f:Nat} {k:IntKind} {l:List Int} {res:SV} {news:List (Nat×Ent)} (h1:l=[]→CallOk P f [.v (.one .nils)] [] res news) (h2:CallOk P f [.v (.one (.slc 9000))] [(9000,.rdx k l)] res news)
  (hn:(news.all fun p=> !Nat.beq p.1 9000)=true):CallOk P f [.v (.one (.slc 9000))] [(9000,.rd k l)] res news:=by
 intro B γ w hp hap hok ht h1'
 have ha:RdI w (γ 9000) k l:=hp (9000,.rd k l) (by simp)
 by_cases hv:γ 9000= .slice none 0 0
 ·have hl:l=[]:=by
   rcases ha with⟨_,h⟩|⟨a,cap,h,_⟩
   ·exact h
   ·rw[hv] at h;cases h
  have:=h1 hl B γ w (by simp) (fun p hp=>by cases hp) (by intro x hx;simp at hx;subst hx;exact⟨trivial,trivial⟩) ht h1'
  have e:([SV.v (.one .nils)].map (SV.den γ)).toArray=([SV.v (.one (.slc 9000))].map (SV.den γ)).toArray:=by simp[SV.den,V1.den,Leaf.cells,hv]
  rw[e] at this
  have tch:∀b,Touch γ w [] news b→Touch γ w [(9000,.rd k l)] news b:=fun b hb=>by
   rcases hb with hb|⟨p,hp,_⟩
   ·exact .inl hb
   ·cases hp
  refine this.mono ?_
  rintro v w' ⟨γ',g1,g2,g3,g4,g5,g6,g7⟩
  refine⟨γ',fun κ hκ=>g1 κ fun p hp he=> ?_,g2,g3,g4,g5.mono fun b _ h=>tch b h,fun p hp=>⟨Ent.at_mono tch (g6 p hp).1,fun b hb=>tch b ((g6 p hp).2 b hb)⟩,g7⟩
  obtain⟨q,hq,hqe⟩:=hκ p hp he
  simp only[List.mem_singleton] at hq
  subst hq
  have:=List.all_eq_true.1 hn p hp
  rw[he,←hqe] at this
  cases this
 ·have tch:∀b,Touch γ w [(9000,.rdx k l)] news b→Touch γ w [(9000,.rd k l)] news b:=fun b hb=>by
   rcases hb with hb|⟨p,hp,hm,_⟩
   ·exact .inl hb
   ·simp only[List.mem_singleton] at hp;subst hp;cases hm
  refine(h2 B γ w (by intro p hp;simp only[List.mem_singleton] at hp;subst hp;exact⟨ha,hv⟩) (fun p hp q hq hne=>by simp only[List.mem_singleton] at hp hq;subst hp;subst hq;exact absurd rfl hne) hok ht h1').mono ?_
  rintro v w' ⟨γ',g1,g2,g3,g4,g5,g6,g7⟩
  refine⟨γ',fun κ hκ=>g1 κ fun p hp he=> ?_,g2,g3,g4,g5.mono fun b _ h=>tch b h,fun p hp=>⟨Ent.at_mono tch (g6 p hp).1,fun b hb=>tch b ((g6 p hp).2 b hb)⟩,g7⟩
  obtain⟨q,hq,hqe⟩:=hκ p hp he
  simp only[List.mem_singleton] at hq
  subst hq
  exact⟨(9000,.rdx k l),by simp,hqe⟩
end Go.Gw

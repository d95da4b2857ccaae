/- A store's files as plain data: their numbers are 0, 1, .. in order. -/
import Derived.Test.YtdbheiibkpendaaGreatDoorMCrA
import Derived.Test.YtdbheiibkpendaaGreatDoorDkT
namespace Go.St
open Go Go.Gw Go.Dk Go.Fr Go.Proofs.Se.D
set_option linter.unusedSimpArgs false
set_option linter.unusedVariables false
def Vk:Nat→List Fl→List (Int×Fl)
 |_,[]=>[]
 |n,f::r=>((n:Int),f)::Vk (n+1) r
abbrev Xn (Z:List Fl):List (Int×Fl):=Vk 0 Z
theorem Jat (Z:List Fl):∀n,(Vk n Z).map (·.1)=(List.range Z.length).map fun i=>((n+i:Nat):Int):=by
 induction Z with
 |nil=>intro n;rfl
 |cons f r ih=>
  intro n
  simp only[Vk,List.map_cons,ih,List.length_cons,List.range_succ_eq_map,List.map_map,Nat.add_zero]
  congr 1
  exact List.map_congr_left fun i _=>by simp only[Function.comp];congr 1;omega
theorem Jkc (Z:List Fl):∀(n i:Nat),WM (Vk n Z) ((n+i:Nat):Int)=Z[i]? :=by
 induction Z with
 |nil=>intro n i;rfl
 | cons f r ih=>
  intro n i
  cases i with
  |zero=>simp[Vk,WM]
  |succ i=>
   have:=ih (n+1) i
   rw[show n+1+i=n+(i+1) by omega] at this
   have hne:(((n:Nat):Int)==((n+(i+1):Nat):Int))=false:=by simp;omega
   unfold WM at this ⊢
   simp only[Vk,List.find?_cons,hne,List.getElem?_cons_succ]
   exact this
theorem Qv (Z:List Fl) (i:Nat):WM (Xn Z) (i:Int)=Z[i]? :=by simpa using Jkc Z 0 i
theorem Jgn (Z:List Fl) (n:Int) (h:n<0∨(Z.length:Int)≤n):WM (Xn Z) n=none:=by
 refine JjR ?_
 rw[Jat]
 intro hm
 obtain⟨i,hi,rfl⟩:=List.mem_map.1 hm
 rw[List.mem_range] at hi
 omega
theorem Jjd (Z W:List Fl):∀n,Vk n (Z++W)=Vk n Z++Vk (n+Z.length) W:=by
 induction Z with
 |nil=>intro n;simp[Vk]
 |cons f r ih=>intro n;simp only[List.cons_append,Vk,ih,List.length_cons];rw[show n+1+r.length=n+(r.length+1) by omega]
theorem JmH (Z:List Fl) (f:Fl):Xn (Z++[f])=Xn Z++[(((Z.length:Nat):Int),f)]:=by
 have:=Jjd Z [f] 0
 simpa[Vk] using this
theorem JjQ (Z:List Fl) (f:Fl):∀(n i:Nat),XN (Vk n Z) ((n+i:Nat):Int) f=Vk n (Z.set i f):=by
 induction Z with
 |nil=>intro n i;rfl
 | cons g r ih=>
  intro n i
  cases i with
  |zero=>
   simp only[List.set_cons_zero,Vk,XN,List.map_cons,Nat.add_zero,if_true]
   congr 1
   refine(List.map_congr_left fun p hp=> ?_).trans (List.map_id _)
   have:p.1∈(Vk (n+1) r).map (·.1):=List.mem_map.2 ⟨p,hp,rfl⟩
   rw[Jat] at this
   obtain⟨j,_,hj⟩:=List.mem_map.1 this
   rw[if_neg (by rw[←hj];omega)];rfl
  |succ i=>
   have:=ih (n+1) i
   rw[show n+1+i=n+(i+1) by omega] at this
   simp only[List.set_cons_succ,Vk,XN,List.map_cons] at this ⊢
   rw[this,if_neg (by omega)]
theorem JcK (Z:List Fl) (f:Fl) (i:Nat):XN (Xn Z) (i:Int) f=Xn (Z.set i f):=by simpa using JjQ Z f 0 i
def tot (Z:List Fl):Nat:=(Z.map fun f=>f.all.length).sum
theorem Jib (Z:List Fl):∀n,WQ (Vk n Z)=(tot Z:Int):=by
 induction Z with
 |nil=>intro n;rfl
 |cons f r ih=>
  intro n
  have:=ih (n+1)
  simp only[WQ,tot] at this ⊢
  simp only[Vk,List.map_cons,List.sum_cons,this]
  omega
theorem Jhr (Z:List Fl):WQ (Xn Z)=(tot Z:Int):=Jib Z 0
theorem JhB (Z:List Fl):Wb (Xn Z)=(List.range Z.length).map fun i=>((i:Nat):Int):=by
 unfold Wb
 rw[Jat]
 simp only[Nat.zero_add]
 refine List.mergeSort_of_pairwise ?_
 rw[List.pairwise_map]
 exact List.pairwise_lt_range.imp fun h=>by simp;omega
theorem JhW (Z:List Fl):∀(n k:Nat),(Vk n Z).filter (fun p=>decide (p.1<((n+k:Nat):Int)))=Vk n (Z.take k):=by
 induction Z with
 |nil=>intro n k;simp[Vk]
 | cons f r ih=>
  intro n k
  cases k with
  |zero=>
   simp only[List.take_zero,Vk,List.filter_eq_nil_iff]
   intro p hp
   have:p.1∈(Vk n (f::r)).map (·.1):=List.mem_map.2 ⟨p,hp,rfl⟩
   rw[Jat] at this
   obtain⟨j,_,hj⟩:=List.mem_map.1 this
   simp only[Nat.add_zero,decide_eq_true_eq]
   omega
  |succ k=>
   have:=ih (n+1) k
   rw[show n+1+k=n+(k+1) by omega] at this
   simp only[Vk,List.take_succ_cons,List.filter_cons]
   rw[if_pos (by simp;omega),this]
theorem JlD (Z:List Fl) (k:Nat):(Xn Z).filter (fun p=>decide (p.1<(k:Int)))=Xn (Z.take k):=by simpa using JhW Z 0 k
theorem Jdc (Z W:List Fl):tot (Z++W)=tot Z+tot W:=by simp[tot]
end Go.St
/- A store is read: its files one by one, their records one by one. -/
namespace Go.St
open Go Go.Gw Go.Dk Go.Fr Go.Proofs.Se.D
set_option linter.unusedSimpArgs false
set_option linter.unusedVariables false
abbrev R:=Int×List Int
def Stop (p:List R) (C:List Int):Prop:=(Gn (fl p++C) (fl p).length).2.2.2≠0
theorem Jgf (p:List R):Stop p []:=by
 unfold Stop
 rw[List.append_nil,Jmj _ _ (by omega)]
 decide
theorem Jix (p:List R) (C:List Int) (h:C.getD 0 0=0):Stop p C:=by
 unfold Stop
 have:(fl p++C).getD (fl p).length 0=0:=by
  have:=Jb9 (fl p) C 0
  rw[Nat.add_zero] at this
  rw[this,h]
 rw[JkM _ _ this]
 decide
theorem JiF {b:List Int} (hB:Byt b) (hb:b.length≤100000) (H:AH) (s:MV) (s4:List Int) (n:Int):∀(p pre:List R) (C:List Int) (k q:Nat) (m:List Int) (l:List R),
  b=fl pre++(fl p++C)→Ok p→(Gn b (fl (pre++p)).length).2.2.2≠0→p.length<k→m.length=2*q→q+p.length≤1000000→l.length+p.length≤1000000→
  ∃m',m'.length=2*(q+p.length)∧Vm H s s4 n b k m l ((fl pre).length:Int)=some (m',l++p,((fl (pre++p)).length:Int)):=by
 intro p
 induction p with
 |nil=>
  intro pre C k q m l hbe ho hst hk hm h1 h2
  obtain⟨k,rfl⟩:∃j,k=j+1:=⟨k- 1,by simp at hk;omega⟩
  rw[List.append_nil] at hst
  rw[List.append_nil,List.append_nil]
  refine⟨m,by simpa using hm,?_⟩
  have hi:(fl pre).length≤b.length:=by rw[hbe];simp
  rw[Vm,Jmh hB hb _ hi,Option.bind_some]
  generalize Gn b (fl pre).length=g at*
  obtain⟨g1,g2,g3,g4⟩:=g
  simp only at hst ⊢
  rw[if_pos (by simpa using hst)]
 | cons r p ih=>
  intro pre C k q m l hbe ho hst hk hm h1 h2
  obtain⟨k,rfl⟩:∃j,k=j+1:=⟨k- 1,by simp at hk;omega⟩
  obtain⟨hr1,hr2,hr3⟩:=ho r (by simp)
  have hi:(fl pre).length≤b.length:=by rw[hbe];simp
  have hg:Gn b (fl pre).length=(r.1,r.2,(((fl pre).length+7+r.2.length:Nat):Int),0):=by
   rw[hbe,Jar,List.append_assoc]
   exact JjO (fl pre) (fl p++C) hr1 hr2
  have hlen:(fl pre).length+7+r.2.length=(fl (pre++[r])).length:=by
   rw[Jab,List.length_append,Jar,List.length_append,Wt];simp[fl];omega
  simp only[List.length_cons] at hk h1 h2
  obtain⟨m',e1,e2⟩:=ih (pre++[r]) C k (q+1) (m++[n,(((fl (pre++[r])).length:Nat):Int)]) (l++[r]) (by rw[hbe,Jab];simp[fl]) (fun x hx=>ho x (by simp[hx])) (by simpa using hst) (by omega) (by simp[hm];omega) (by omega) (by simp;omega)
  refine⟨m',by rw[e1,List.length_cons];omega,?_⟩
  rw[Vm,Jmh hB hb _ hi,Option.bind_some,hg]
  simp only
  rw[if_neg (by simp),if_pos (by simp[YJ];omega),if_pos (by simp[YJ,hm];omega),hlen,e2]
  simp
theorem JcR {c:Nat} {H:AH} {d:MV} {lim life:Int} {fs:List (Int×Fl)} (h:Jx c H d (On lim fs life)) {n:Int} {f:Fl} (hf:WM fs n=some f):Wh H d n=some (f.all,0):=by
 rw[Jhx h,JkJ hf]
theorem Jbf {c:Nat} {H:AH} {d:MV} {lim life:Int} {fs:List (Int×Fl)} (h:Jx c H d (On lim fs life)) {n:Int} (hf:WM fs n=none):Wh H d n=some ([],10):=by
 rw[Jhx h]
 unfold Dk.read
 rw[if_neg (by simp)]
 simp only[hf]
theorem JkV {c:Nat} {H:AH} {d:MV} {lim life:Int} {fs:List (Int×Fl)} (h:Jx c H d (On lim fs life)) (C:List Int) (s4:List Int):∀(P:List (List R)) (p:List R) (n k q:Nat) (m:List Int) (last:Int) (l:List R) (stop:Int),
  (∀x∈P++[p],Ok x)→(∀i x,P[i]? =some x→∃f,WM fs ((n+i:Nat):Int)=some f∧f.all=fl x∧f.all.length≤100000)→(∃f,WM fs ((n+P.length:Nat):Int)=some f∧f.all=fl p++C∧f.all.length≤100000∧Byt C)→
  Stop p C→(C=[]→WM fs ((n+P.length+1:Nat):Int)=none)→n+P.length≤64→m.length=2*q→q+(P++[p]).flatten.length≤1000000→l.length+(P++[p]).flatten.length≤1000000→P.length+2≤k→
  ∃m',m'.length=2*(q+(P++[p]).flatten.length)∧JQ H d s4 k m last l stop (n:Int)=some (.inr (l++(P++[p]).flatten,((fl p).length:Int),0,m',((n+P.length:Nat):Int))):=by
 intro P
 induction P with
 | nil=>
  intro p n k q m last l stop ho _ hp hst hend hn64 hm h1 h2 hk
  obtain⟨f,f1,f2,f3,f4⟩:=hp
  simp only[List.length_nil,Nat.add_zero,List.nil_append,List.flatten_cons,List.flatten_nil,List.append_nil] at*
  obtain⟨k,rfl⟩:∃j,k=j+2:=⟨k- 2,by omega⟩
  have hop:Ok p:=ho p (by simp)
  have hBy:Byt f.all:=by rw[f2];exact(Jkw hop).app f4
  have hrd:=JcR h f1
  obtain⟨m',e1,e2⟩:=JiF hBy f3 H d s4 (n:Int) p [] C (f.all.length+1) q m l (by simpa[fl] using f2) hop (by rw[f2];exact hst) (by
   have:=Jko p
   have:(fl p).length≤f.all.length:=by rw[f2];simp
   omega) hm h1 h2
  refine⟨m',e1,?_⟩
  rw[JQ,hrd,Option.bind_some]
  simp only[JL,Option.bind_some,YN]
  rw[if_neg (by simp),if_neg (by simp)]
  have e0:((fl ([]:List R)).length:Int)=0:=rfl
  rw[e0] at e2
  simp only[List.nil_append] at e2
  rw[e2,Option.bind_some]
  simp only
  by_cases hC:C=[]
  ·have hl:(fl p).length=f.all.length:=by rw[f2,hC,List.append_nil]
   rw[if_neg (by simp;omega)]
   have hnx:IntKind.i64.wrap ((n:Int)+1)=((n+1:Nat):Int):=by rw[Jaw _ (by omega) (by omega)];omega
   rw[hnx,JQ,Jbf h (hend hC),Option.bind_some]
   simp only[JL,Option.bind_some,YN]
   rw[if_pos (by decide)]
  ·rw[if_pos (by
    have:0<C.length:=List.length_pos_iff.2 hC
    simp only[decide_eq_true_eq,f2,List.length_append];omega)]
 | cons x P ih=>
  intro p n k q m last l stop ho hP hp hst hend hn64 hm h1 h2 hk
  obtain⟨k,rfl⟩:∃j,k=j+1:=⟨k- 1,by omega⟩
  obtain⟨f,f1,f2,f3⟩:=hP 0 x rfl
  have hox:Ok x:=ho x (by simp)
  have hBy:Byt f.all:=by rw[f2];exact Jkw hox
  have hrd:=JcR h (n:=(n:Int)) (by simpa using f1)
  simp only[List.cons_append,List.flatten_cons,List.length_append,List.length_cons] at h1 h2 hk hend hp ⊢
  obtain⟨m1,e1,e2⟩:=JiF hBy f3 H d s4 (n:Int) x [] [] (f.all.length+1) q m l (by simpa[fl] using f2) hox (by have:=Jgf x;unfold Stop at this;rw[List.append_nil] at this;rw[f2];exact this) (by
   have:=Jko x
   rw[f2];omega) hm (by omega) (by omega)
  have hnx:IntKind.i64.wrap ((n:Int)+1)=((n+1:Nat):Int):=by rw[Jaw _ (by omega) (by omega)];omega
  obtain⟨m',g1,g2⟩:=ih p (n+1) k (q+x.length) m1 (n:Int) (l++x) ((fl x).length:Int) (fun y hy=>ho y (by simp at hy ⊢;exact .inr hy)) (fun i y hy=>by
    obtain⟨f',q1,q2,q3⟩:=hP (i+1) y (by simpa using hy)
    exact⟨f',by rw[show n+1+i=n+(i+1) by omega];exact q1,q2,q3⟩)
   (by rw[show n+1+P.length=n+(P.length+1) by omega];exact hp) hst (fun hC=>by rw[show n+1+P.length+1=n+(P.length+1)+1 by omega];exact hend hC) (by simp only[List.length_cons] at hn64;omega) e1 (by simp only[List.flatten_append,List.flatten_cons,List.flatten_nil,List.length_append] at*;omega)
   (by simp only[List.flatten_append,List.flatten_cons,List.flatten_nil,List.length_append] at*;omega) (by omega)
  refine⟨m',by rw[g1];omega,?_⟩
  rw[JQ,hrd,Option.bind_some]
  simp only[JL,Option.bind_some,YN]
  rw[if_neg (by simp),if_neg (by simp)]
  have e0:((fl ([]:List R)).length:Int)=0:=rfl
  rw[e0] at e2
  simp only[List.nil_append] at e2
  rw[e2,Option.bind_some]
  simp only
  rw[if_neg (by rw[f2];simp),hnx,g2]
  simp only[List.append_assoc]
  rw[show n+1+P.length=n+(P.length+1) by omega]
end Go.St
/- A store is mended and opened. -/
namespace Go.St
open Go Go.Gw Go.Dk Go.Fr Go.Proofs.Se.D
set_option linter.unusedSimpArgs false
set_option linter.unusedVariables false
abbrev low (fs:List (Int×Fl)) (last:Int):List (Int×Fl):=fs.filter fun p=>decide (p.1≤last)
theorem JfL {c:Nat} {H:AH} {d:MV} {lim life:Int} {fs:List (Int×Fl)} (h:Jx c H d (On lim fs life)) {n:Int} {f:Fl} (hf:WM fs n=some f):
  ∃H',VV H d n=some (0,H')∧Jx c H' d (On lim (XN fs n f.settle) life):=by
 obtain⟨H',e1,e2⟩:=Jk2 h n
 rw[Jlg hf] at e1 e2
 exact⟨H',e1,e2⟩
theorem Jiu {c:Nat} {d:MV} {lim life:Int} (s2:Nat) (last:Int) (s4:List Int) (stop:Int) (A:List Int) (hA:A.length≤1000):∀(a:List Int) (i:Nat) (fs:List (Int×Fl)) (H:AH),
  A.drop i=a→a.Pairwise (·>·)→(∀n∈a,n∈fs.map (·.1))→(∀p∈fs,p.1∈a)→Jx c H d (On lim fs life)→
  ∃H',JE d s2 last s4 stop A (a.length+1) H (i:Int)=some (.inl H')∧Jx c H' d (On lim (low fs last) life):=by
 intro a
 induction a with
 |nil=>
  intro i fs H hd _ _ h2 h
  have hl:A.length≤i:=by simpa using hd
  have hfs:fs=[]:=List.eq_nil_iff_forall_not_mem.2 fun p hp=>by have:=h2 p hp;simp at this
  refine⟨H,?_,by rw[hfs] at h ⊢;exact h⟩
  rw[List.length_nil,JE,if_neg (by simp;omega)]
 | cons x r ih=>
  intro i fs H hd hp h1 h2 h
  have hi:i<A.length:=by
   rcases Nat.lt_or_ge i A.length with q|q
   ·exact q
   ·rw[List.drop_eq_nil_of_le q] at hd;cases hd
  have hx:A.getD i 0=x:=by
   have:A.drop i=A[i]::A.drop (i+1):=List.drop_eq_getElem_cons hi
   rw[this] at hd
   simp only[List.cons.injEq] at hd
   simp[List.getD,hi,hd.1]
  have hdr:A.drop (i+1)=r:=by
   have:A.drop i=A[i]::A.drop (i+1):=List.drop_eq_getElem_cons hi
   rw[this] at hd
   simp only[List.cons.injEq] at hd
   exact hd.2
  obtain⟨hp1,hp2⟩:=List.pairwise_cons.1 hp
  rw[List.length_cons,JE,if_pos (by simp;omega),if_pos ⟨by omega,by omega⟩,Int.toNat_natCast,hx]
  by_cases hl:x≤last
  ·refine⟨H,by rw[if_pos (by simpa using hl)],?_⟩
   have:low fs last=fs:=List.filter_eq_self.2 fun p hp=>by
    have:=h2 p hp
    rcases List.mem_cons.1 this with q|q
    ·simp only[decide_eq_true_eq];omega
    ·have:=hp1 _ q;simp only[decide_eq_true_eq];omega
   rw[this];exact h
  ·have hm:=h1 x (by simp)
   obtain⟨f,hf⟩:∃f,WM fs x=some f:=by
    cases hg:WM fs x with
    |none=>exact absurd hm (YB hg)
    |some f=>exact⟨f,rfl⟩
   obtain⟨H1,e1,e2⟩:=JhZ h x
   rw[Jim hf] at e1 e2
   obtain⟨H',g1,g2⟩:=ih (i+1) (fs.filter fun p=> !(p.1==x)) H1 hdr hp2 (fun n hn=>by
     obtain⟨p,hp,rfl⟩:=List.mem_map.1 (h1 n (by simp[hn]))
     refine List.mem_map.2 ⟨p,List.mem_filter.2 ⟨hp,?_⟩,rfl⟩
     have:=hp1 _ hn
     simp;omega) (fun p hp=>by
     obtain⟨q1,q2⟩:=List.mem_filter.1 hp
     rcases List.mem_cons.1 (h2 p q1) with q|q
     ·rw[q] at q2;simp at q2
     ·exact q) e2
   refine⟨H',?_,?_⟩
   ·rw[if_neg (by simpa using hl),e1,Option.bind_some]
    simp only[JL,Option.bind_some]
    rw[if_neg (by decide),show IntKind.i64.wrap ((i:Int)+1)=((i+1:Nat):Int) by rw[Jaw _ (by omega) (by omega)];omega]
    exact g1
   ·have:low (fs.filter fun p=> !(p.1==x)) last=low fs last:=by
     unfold low
     rw[List.filter_filter]
     refine List.filter_congr fun p _=> ?_
     by_cases hq:p.1≤last
     ·have hne:(p.1==x)=false:=by simp;omega
      simp[hq,hne]
     ·simp[hq]
    rw[this] at g2
    exact g2
theorem Jed (fs:List (Int×Fl)) (hn:(fs.map (·.1)).Nodup):(Wb fs).reverse.Pairwise (·>·):=by
 rw[List.pairwise_reverse]
 have h1:=List.pairwise_mergeSort (le:=fun x y:Int=>decide (x≤y)) (fun a b c h1 h2=>by simp at*;omega) (fun a b=>by simp;omega) (fs.map (·.1))
 have h2:(Wb fs).Nodup:=by
  unfold Wb
  exact(List.mergeSort_perm (fs.map (·.1)) fun x y:Int=>decide (x≤y)).nodup_iff.2 hn
 refine(h1.and h2).imp fun h=> ?_
 have:=h.1
 simp at this
 have:=h.2
 omega
theorem QN (fs:List (Int×Fl)):(Wb fs).length=fs.length:=by
 unfold Wb
 rw[(List.mergeSort_perm (fs.map (·.1)) fun x y:Int=>decide (x≤y)).length_eq,List.length_map]
theorem Jcs {c:Nat} {H:AH} {d:MV} {A:Dk} (h:Jx c H d A):(A.fs.map (·.1)).Nodup∧A.fs.length≤64:=by
 obtain⟨i,m,js,_,L,a,_,_,_,_,g⟩:=h
 refine⟨g.nd,?_⟩
 have:=Jf3 64 _ g.nd (fun n hn=>g.rg n hn)
 simpa using this
theorem Jj5 {c:Nat} {H:AH} {d:MV} {lim life:Int} {fs:List (Int×Fl)} (h:Jx c H d (On lim fs life)) (s2:Nat) (last:Int) (s4:List Int) (stop:Nat) {f:Fl} (hf:WM (low fs last) last=some f) (hs:stop≤f.all.length):
  ∃H' g,JZ H d s2 last s4 (stop:Int)=some (0,H')∧Jx c H' d (On lim (XN (low fs last) last g) life)∧g.all=f.all.take stop:=by
 obtain⟨k1,k2⟩:=Jcs h
 have hkl:=QN fs
 obtain⟨H1,e1,e2⟩:=Jiu s2 last s4 (stop:Int) (Wb fs).reverse (by simp;simp at k2;omega) (Wb fs).reverse 0 fs H rfl (Jed fs k1) (fun n hn=>(XP fs n).1 (by simpa using hn))
  (fun p hp=>by simpa using (XP fs p.1).2 (List.mem_map.2 ⟨p,hp,rfl⟩)) h
 have hlen:(((Wb fs).reverse.length:Int)- 0).toNat+1=(Wb fs).reverse.length+1:=by omega
 unfold JZ
 rw[Jay h,Option.bind_some]
 simp only[VC,Option.bind_some]
 rw[hlen]
 refine(fun z=> ?_) ()
 have e1':JE d s2 last s4 (stop:Int) (Wb fs).reverse ((Wb fs).reverse.length+1) H 0=some (.inl H1):=e1
 rw[e1',Option.bind_some]
 simp only
 rw[Jal e2,Option.bind_some,Ja4 hf]
 by_cases hc:stop<f.all.length
 ·obtain⟨H2,g1,g2⟩:=JkB e2 last (stop:Int)
  rw[Jkk hf stop hs] at g1 g2
  rw[if_pos (by simp;omega),g1,Option.bind_some]
  simp only[JL,Option.bind_some]
  exact⟨H2,_,rfl,g2,by simp[Fl.all]⟩
 ·rw[if_neg (by simp;omega)]
  refine⟨H1,f,rfl,?_,by rw[List.take_of_length_le (by omega)]⟩
  have:XN (low fs last) last f=low fs last:=by
   unfold XN
   refine(List.map_congr_left fun p hp=> ?_).trans (List.map_id _)
   split
   ·rename_i hq
    have hn:((low fs last).map (·.1)).Nodup:=(List.filter_sublist.map _).nodup k1
    have:=XM hn (VL hf) hp hq.symm
    exact this
   ·rfl
  rw[this];exact e2
theorem JiA {c:Nat} {H:AH} {d:MV} {lim life:Int} (h:Jx c H d (On lim [] life)) (s2:Nat) (s4:List Int):
  JZ H d s2 0 s4 0=some (0,H):=by
 have hk:Wb []=[]:=by simp[Wb]
 unfold JZ
 rw[Jay h,Option.bind_some,hk]
 simp only[VC,Option.bind_some]
 have e:JE d s2 0 s4 0 [].reverse ((((([]:List Int).reverse.length:Nat):Int)- (0:Int)).toNat+1) H 0=some (.inl H):=by
  show JE d s2 0 s4 0 [] (0+1) H 0=_
  rw[JE,if_neg (by simp)]
 rw[e,Option.bind_some]
 simp only
 rw[Jal h,Option.bind_some]
 have:(On lim [] life).size 0=0:=rfl
 rw[this,if_neg (by decide)]
theorem Jhn {c:Nat} {d:MV} {lim life:Int} (s2:Nat) (last:Nat) (s4:List Int) (hl:last≤64):∀(j n k:Nat) (Z:List Fl) (H:AH),n+j=last+1→Z.length=last+1→j<k→Jx c H d (On lim (Xn Z) life)→
  ∃H',JK d s2 (last:Int) s4 k H (n:Int)=some (.inl H')∧Jx c H' d (On lim (Xn (Z.take n++(Z.drop n).map Fl.settle)) life):=by
 intro j
 induction j with
 |zero=>
  intro n k Z H hj hz hk h
  obtain⟨k,rfl⟩:∃j,k=j+1:=⟨k- 1,by omega⟩
  refine⟨H,by rw[JK,if_neg (by simp;omega)],?_⟩
  rw[List.drop_eq_nil_of_le (by omega),List.take_of_length_le (by omega),List.map_nil,List.append_nil]
  exact h
 | succ j ih=>
  intro n k Z H hj hz hk h
  obtain⟨k,rfl⟩:∃j,k=j+1:=⟨k- 1,by omega⟩
  have hn:n<Z.length:=by omega
  obtain⟨H1,e1,e2⟩:=JfL h (n:=(n:Int)) (f:=Z[n]) (by rw[Qv];exact List.getElem?_eq_getElem hn)
  rw[JcK] at e2
  obtain⟨H',g1,g2⟩:=ih (n+1) k (Z.set n Z[n].settle) H1 (by omega) (by simpa using hz) (by omega) e2
  refine⟨H',?_,?_⟩
  ·rw[JK,if_pos (by simp;omega),e1,Option.bind_some]
   simp only[JL,Option.bind_some]
   rw[if_neg (by decide),show IntKind.i64.wrap ((n:Int)+1)=((n+1:Nat):Int) by rw[Jaw _ (by omega) (by omega)];omega]
   exact g1
  ·have:(Z.set n Z[n].settle).take (n+1)++((Z.set n Z[n].settle).drop (n+1)).map Fl.settle=Z.take n++(Z.drop n).map Fl.settle:=by
    rw[List.drop_eq_getElem_cons hn,List.map_cons,List.drop_set_of_lt (by omega),List.take_succ_eq_append_getElem (by simpa using hn),List.getElem_set_self,List.take_set_of_le (Nat.le_refl n),List.append_assoc]
    rfl
   rw[this] at g2
   exact g2
theorem Jio (s2:Nat) (last:Int) (s4:List Int) (d:MV):∀(k:Nat) (H:AH) (n:Int),Wa d s2 last s4 k H n=JK d s2 last s4 k H n:=by
 intro k
 induction k with
 |zero=>intro H n;rfl
 |succ k ih=>
  intro H n
  rw[Wa,JK]
  simp only[ih]
theorem JfK {c:Nat} {H:AH} {d:MV} {lim life:Int} {fs:List (Int×Fl)} (h:Jx c H d (On lim fs life)) {P:List (List R)} {p:List R} {C:List Int} {Z:List Fl} {f:Fl}
  (hfs:low fs ((Z.length:Nat):Int)=Xn (Z++[f])) (hgn:C=[]→WM fs ((Z.length+1:Nat):Int)=none)
  (ho:∀x∈P++[p],Ok x) (hZ:Z.map Fl.all=P.map fl) (hf:f.all=fl p++C) (hC:Byt C) (hst:Stop p C) (hln:∀g∈Z++[f],g.all.length≤100000) (hrec:(P++[p]).flatten.length≤1000000):
  ∃H' ends Z',Wc H d=some (d,ends,((Z.length:Nat):Int),[],(P++[p]).flatten,0,H')∧Jx c H' d (On lim (Xn Z') life)∧Z'=(P++[p]).map (fun x=>⟨fl x,[]⟩)∧ends.length=2*(P++[p]).flatten.length:=by
 have hPZ:P.length=Z.length:=by have:=congrArg List.length hZ;simpa using this.symm
 obtain⟨k1,k2⟩:=Jcs h
 have hlow:((low fs ((Z.length:Nat):Int)).length)≤fs.length:=List.length_filter_le _ _
 have hz64:Z.length+1≤64:=by
  have e:(Xn (Z++[f])).length=Z.length+1:=by
   have:=congrArg List.length (Jat (Z++[f]) 0);simpa using this
  rw[hfs,e] at hlow
  have k2:fs.length≤64:=k2
  omega
 have hget:∀(i:Nat),i≤Z.length→WM fs (i:Int)=(Z++[f])[i]? :=fun i hi=>by
  rw[←Qv,←hfs]
  unfold WM low
  rw[List.find?_filter]
  congr 1
  refine congrArg (fun q=>List.find? q fs) (funext fun q=> ?_)
  by_cases hq:q.1=(i:Int)
  ·simp[hq];omega
  ·simp[hq]
 obtain⟨m',e1,e2⟩:=JkV h C [] P p 0 70 0 [] 0 [] 0 ho (fun i x hx=>by
   have hi:i<P.length:=(List.getElem?_eq_some_iff.1 hx).1
   have hiz:i<Z.length:=by omega
   refine⟨Z[i],?_,?_,hln _ (by simp[List.getElem_mem])⟩
   ·rw[Nat.zero_add,hget i (by omega),List.getElem?_append_left hiz,List.getElem?_eq_getElem hiz]
   ·have:=congrArg (fun l=>l[i]?) hZ
    simp only[List.getElem?_map,hx,List.getElem?_eq_getElem hiz,Option.map_some,Option.some.injEq] at this
    exact this)
  ⟨f,by rw[Nat.zero_add,hPZ,hget _ (Nat.le_refl _)];simp,hf,hln f (by simp),hC⟩ hst (fun hc=>by rw[Nat.zero_add,hPZ];exact hgn hc) (by omega) rfl (by simpa using hrec) (by simpa using hrec) (by omega)
 simp only[Nat.zero_add,List.nil_append] at e1 e2
 have hrd:VQ H d [] 0 []=some ((P++[p]).flatten,((fl p).length:Int),0,m',((P.length:Nat):Int)):=by
  unfold VQ
  have e2':JQ H d [] 70 [] 0 [] 0 0=_:=e2
  rw[e2',Option.bind_some]
 have hfl:WM (low fs ((P.length:Nat):Int)) ((P.length:Nat):Int)=some f:=by
  rw[hPZ,hfs,Qv];simp
 obtain⟨H1,g,r1,r2,r3⟩:=Jj5 h (m'.length/2) ((P.length:Nat):Int) [] (fl p).length hfl (by rw[hf];simp)
 have hg:g.all=fl p:=by rw[r3,hf,List.take_left]
 rw[hPZ,hfs,JcK] at r2
 have hset:(Z++[f]).set Z.length g=Z++[g]:=by simp
 rw[hset] at r2
 obtain⟨H2,s1,s2⟩:=Jhn (m'.length/2) Z.length [] (by omega) (Z.length+1) 0 70 (Z++[g]) H1 (by omega) (by simp) (by omega) r2
 simp only[List.take_zero,List.drop_zero,List.nil_append] at s2
 have hmend:VP H d (m'.length/2) ((P.length:Nat):Int) [] ((fl p).length:Int)=some (0,H2):=by
  unfold VP
  rw[r1,Option.bind_some]
  simp only
  rw[if_neg (by decide),Jay r2,Option.bind_some,JhB,if_neg (by simp;omega),hPZ]
  have s1':JK d (m'.length/2) ((Z.length:Nat):Int) [] 70 H1 0=_:=s1
  rw[s1',Option.bind_some]
 refine⟨H2,m',_,?_,s2,?_,e1⟩
 ·obtain⟨i,m,js,hd,L,a,D,_⟩:=id h
  have hP:MV.isP d=true∧AH.ok H d 0 1=true:=by
   rw[hd,okC D.d]
   exact⟨rfl,rfl⟩
  unfold Wc
  rw[if_pos (.inr hP),if_neg (by rw[hd];exact Bool.false_ne_true),Jbg h,Option.bind_some,if_neg (by simp),hrd,Option.bind_some]
  simp only
  rw[if_pos (by decide),hmend,Option.bind_some,Option.bind_some]
  simp only
  rw[if_neg (by decide),hPZ]
 ·rw [List.map_append,List.map_append]
  congr 1
  ·refine List.ext_getElem? fun i=> ?_
   have:=congrArg (fun l=>l[i]?) hZ
   simp only[List.getElem?_map] at this ⊢
   cases h1:Z[i]? with
   |none=>rw[h1] at this;cases h2:P[i]? with
    |none=>rfl
    |some y=>rw[h2] at this;cases this
   | some x=>rw[h1] at this;cases h2:P[i]? with
    |none=>rw[h2] at this;cases this
    |some y=>
     rw[h2] at this
     simp only[Option.map_some,Option.some.injEq] at this ⊢
     unfold Fl.settle
     rw[this]
  ·simp only[List.map_cons,List.map_nil,Fl.settle,hg]
end Go.St
/- A store is begun, appended to, synced. -/
namespace Go.St
open Go Go.Gw Go.Dk Go.Fr Go.Proofs.Se.D
set_option linter.unusedSimpArgs false
set_option linter.unusedVariables false
theorem Jk6 {c:Nat} {H:AH} {d:MV} {A:Dk} (h:Jx c H d A):MV.isN d=false∧MV.isP d=true∧AH.ok H d 0 1=true:=by
 obtain⟨i,m,js,hd,L,a,D,_⟩:=h
 rw[hd,okC D.d]
 exact⟨rfl,rfl,rfl⟩
theorem JdV {c:Nat} {H:AH} {d:MV} {lim life:Int} (h:Jx c H d (On lim [] life)):
  ∃H',Wc H d=some (d,[],0,[],[],0,H')∧Jx c H' d (On lim (Xn [⟨[],[]⟩]) life):=by
 obtain⟨hN,hP⟩:=Jk6 h
 have hrd:VQ H d [] 0 []=some ([],0,0,[],0):=by
  unfold VQ
  rw[show (70:Nat)=69+1 from rfl,JQ,Jbf h rfl,Option.bind_some]
  simp only[JL,Option.bind_some,YN]
  rw[if_pos (by decide),Option.bind_some]
 obtain⟨H1,e1,e2⟩:=Jd3 h 0
 rw[JdR (by decide) (by decide) rfl] at e1 e2
 obtain⟨H2,s1,s2⟩:=Jhn 0 0 [] (by omega) 1 0 70 [⟨[],[]⟩] H1 (by omega) rfl (by omega) e2
 have hmend:VP H d 0 0 [] 0=some (0,H2):=by
  unfold VP
  rw[JiA h,Option.bind_some]
  simp only
  have hk:Wb []=[]:=by simp[Wb]
  rw[if_neg (by decide),Jay h,Option.bind_some,hk,if_pos (by decide),e1,Option.bind_some]
  simp only[JL,Option.bind_some]
  rw[if_neg (by decide),Jio]
  have s1':JK d 0 0 [] 70 H1 0=_:=s1
  rw[s1',Option.bind_some]
 refine⟨H2,?_,s2⟩
 unfold Wc
 rw[if_pos (.inr hP),if_neg (by rw[hN];exact Bool.false_ne_true),Jbg h,Option.bind_some,if_neg (by simp),hrd,Option.bind_some]
 simp only
 rw[if_pos (by decide),show List.length ([]:List Int)/2=0 from rfl,hmend,Option.bind_some,Option.bind_some]
 simp only
 rw[if_neg (by decide)]
theorem Jkh (s:List Int) (v:Int) (hl:s.length≤1000000):∀(j i:Nat),i+j=s.length→v∉s.take i→
  (v∈s→∃x:Int,0≤x∧JB s v (j+1) (i:Int)=some (.inr x))∧(v∉s→JB s v (j+1) (i:Int)=some (.inl ())):=by
 intro j
 induction j with
 |zero=>
  intro i hij hn
  rw[List.take_of_length_le (by omega)] at hn
  refine⟨fun h=>absurd h hn,fun _=> ?_⟩
  rw[JB,if_neg (by simp;omega)]
 | succ j ih=>
  intro i hij hn
  have hi:i<s.length:=by omega
  have hg:s.getD ((i:Int)).toNat 0=s[i]:=by simp[List.getD,hi]
  rw[JB,if_pos (by simp;omega),if_pos ⟨by omega,by omega⟩,hg]
  by_cases hv:v=s[i]
  ·rw[if_pos (by simpa using hv)]
   exact⟨fun _=>⟨_,by omega,rfl⟩,fun h=>absurd (by rw[hv];exact List.getElem_mem hi) h⟩
  ·rw[if_neg (by simpa using hv),show IntKind.i64.wrap ((i:Int)+1)=((i+1:Nat):Int) by rw[Jaw _ (by omega) (by omega)];omega]
   refine ih (i+1) (by omega) ?_
   rw[List.take_succ_eq_append_getElem hi,List.mem_append,List.mem_singleton]
   rintro (h|h)
   ·exact hn h
   ·exact hv h
theorem JbZ (s:List Int) (v:Int) (hl:s.length≤1000000):Vt s v=some (decide (v∈s)):=by
 obtain⟨h1,h2⟩:=Jkh s v hl s.length 0 (by omega) (by simp)
 have e:((s.length:Int)- 0).toNat+1=s.length+1:=by omega
 unfold Vt Wk
 rw[e]
 by_cases hv:v∈s
 ·obtain⟨x,hx,h⟩:=h1 hv
  have h':JB s v (s.length+1) 0=_:=h
  rw[h',Option.bind_some,Option.bind_some,decide_eq_true hv,decide_eq_true (by omega)]
 ·have h':JB s v (s.length+1) 0=_:=h2 hv
  rw[h',Option.bind_some,Option.bind_some,decide_eq_false hv,decide_eq_false (by decide)]
def ins (l:List Int) (x:Int):List Int:=if x∈l then l else l++[x]
inductive Put (b:List Int):List Fl→Fl→List Fl→Fl→Prop where
 |here {Z:List Fl} {f:Fl}:f.all.length<4096→Put b Z f Z ⟨f.s,f.ps++[b]⟩
 |next {Z:List Fl} {f:Fl}:4096≤f.all.length→Put b Z f (Z++[f]) ⟨[],[b]⟩
theorem JeR {c:Nat} {H:AH} {d:MV} {lim life:Int} {Z:List Fl} {f:Fl} (h:Jx c H d (On lim (Xn (Z++[f])) life)) (hf:f.all.length<4096) (n:Nat) (dirty:List Int):
  Vj H d n ((Z.length:Nat):Int) dirty=some (0,((Z.length:Nat):Int),H):=by
 unfold Vj
 rw[Jal h,Option.bind_some,Ja4 (f:=f) (by rw[Qv];simp),if_pos (by simp;omega)]
theorem JeG {c:Nat} {H:AH} {d:MV} {lim life:Int} {Z:List Fl} {f:Fl} (h:Jx c H d (On lim (Xn (Z++[f])) life)) (hf:4096≤f.all.length) (hz:Z.length+1<64) (n:Nat) (dirty:List Int):
  ∃H',Vj H d n ((Z.length:Nat):Int) dirty=some (0,(((Z++[f]).length:Nat):Int),H')∧Jx c H' d (On lim (Xn ((Z++[f])++[⟨[],[]⟩])) life):=by
 have hw:IntKind.i64.wrap (((Z.length:Nat):Int)+1)=(((Z++[f]).length:Nat):Int):=by rw[Jaw _ (by omega) (by omega)];simp
 obtain⟨H1,e1,e2⟩:=Jd3 h (((Z++[f]).length:Nat):Int)
 rw[JdR (by omega) (by simp;omega) (Jgn _ _ (.inr (Int.le_refl _)))] at e1 e2
 rw[←JmH] at e2
 refine⟨H1,?_,e2⟩
 unfold Vj
 rw[Jal h,Option.bind_some,Ja4 (f:=f) (by rw[Qv];simp),if_neg (by simp;omega),hw,if_neg (by simp;omega),e1,Option.bind_some]
 simp only[JL,Option.bind_some]
 rw[if_pos (by decide),Option.bind_some]
theorem Jcy {c:Nat} {H H0:AH} {d:MV} {lim life:Int} {Z:List Fl} {f:Fl} (h:Jx c H d (On lim (Xn (Z++[f])) life)) (h0:Vb H0 d=some false) (hc:c<1000000) {k:Int} {b:List Int} (hk:Kin k) (hB:Byt b) (hl:b.length≤2000)
  (hroom:((tot (Z++[f])+7+b.length:Nat):Int)≤lim) {ends dirty:List Int} (he:ends.length≤1000000) (hd:dirty.length≤1000000) {last0:Int} (hr:Vj H0 d (List.length ends/2) last0 dirty=some (0,((Z.length:Nat):Int),H)):
  ∃H' x,Js H0 d ends last0 dirty k b=some (0,ends++[((Z.length:Nat):Int),x],((Z.length:Nat):Int),ins dirty ((Z.length:Nat):Int),H')∧Jx (c+1) H' d (On lim (Xn (Z++[⟨f.s,f.ps++[frm k b]⟩])) life):=by
 have hput:XZ [] k b=some (frm k b,0):=by
  have:=Jkn (b:=[]) hk hB hl (by simp)
  simpa using this
 have hget:WM (Xn (Z++[f])) ((Z.length:Nat):Int)=some f:=by rw[Qv];simp
 obtain⟨H1,e1,e2⟩:=Jev h ((Z.length:Nat):Int) (frm k b) (by rw[Wt];omega) hc
 rw[JdT hget _ (by rw[Jhr,Wt];omega),JcK] at e1 e2
 have hset:(Z++[f]).set Z.length ⟨f.s,f.ps++[frm k b]⟩=Z++[⟨f.s,f.ps++[frm k b]⟩]:=by simp
 rw[hset] at e2
 refine⟨H1,((⟨f.s,f.ps++[frm k b]⟩:Fl).all.length:Int),?_,e2⟩
 unfold Js
 rw[hput,Option.bind_some]
 simp only
 rw[if_neg (by decide),h0,Option.bind_some,if_neg (by decide),hr,Option.bind_some]
 simp only
 rw[if_pos (by decide),e1,Option.bind_some]
 simp only[JL,Option.bind_some]
 rw[if_neg (by decide),Jal e2,Option.bind_some,Ja4 (f:=⟨f.s,f.ps++[frm k b]⟩) (by rw[Qv];simp),if_pos (by simp[YJ];omega),JbZ _ _ hd,Option.bind_some]
 unfold ins
 by_cases hm:((Z.length:Nat):Int)∈dirty
 ·rw[if_neg (by simp[hm]),Option.bind_some,if_pos hm]
 ·rw[if_pos (by simp[hm]),if_pos (by simp[YJ];omega),Option.bind_some,if_neg hm]
theorem Xq {c:Nat} {H:AH} {d:MV} {lim life:Int} {Z:List Fl} {f:Fl} (h:Jx c H d (On lim (Xn (Z++[f])) life)) (hc:c<1000000) {k:Int} {b:List Int} (hk:Kin k) (hB:Byt b) (hl:b.length≤2000)
  (hroom:((tot (Z++[f])+7+b.length:Nat):Int)≤lim) (hz:4096≤f.all.length→Z.length+1<64) {ends dirty:List Int} (he:ends.length≤1000000) (hd:dirty.length≤1000000):
  ∃H' x Z' f',Js H d ends ((Z.length:Nat):Int) dirty k b=some (0,ends++x,((Z'.length:Nat):Int),ins dirty ((Z'.length:Nat):Int),H')∧x.length=2∧Jx (c+1) H' d (On lim (Xn (Z'++[f'])) life)∧Put (frm k b) Z f Z' f':=by
 have h0:=Jbg h
 by_cases hf:f.all.length<4096
 ·obtain⟨H',x,e1,e2⟩:=Jcy h h0 hc hk hB hl hroom he hd (JeR h hf _ _)
  exact⟨H',_,Z,_,e1,rfl,e2,.here hf⟩
 ·have hf:=Nat.le_of_not_lt hf
  obtain⟨H1,r1,r2⟩:=JeG h hf (hz hf) (List.length ends/2) dirty
  obtain⟨H',x,e1,e2⟩:=Jcy r2 h0 hc hk hB hl (by rw[Jdc];simpa[tot,Fl.all] using hroom) he hd r1
  exact⟨H',_,Z++[f],_,e1,rfl,e2,.next hf⟩
theorem JhU {f:Fl} (h:f.ps=[]):f.settle=f:=by
 obtain⟨s,ps⟩:=f
 simp only at h
 subst h
 simp[Fl.settle,Fl.all]
theorem YI (f:Fl):f.settle.all=f.all:=by simp[Fl.settle,Fl.all]
theorem JkO {c:Nat} {d:MV} {lim life:Int} (n:Nat) (last:Int):∀(dirty:List Int) (k:Nat) (Z:List Fl) (H:AH),dirty.length<k→(∀x∈dirty,0≤x∧x<(Z.length:Int))→(∀(i:Nat) (f:Fl),Z[i]? =some f→f.ps≠[]→(i:Int)∈dirty)→
  Jx c H d (On lim (Xn Z) life)→∃H',VE d n last k H dirty=some (.inl (H',[]))∧Jx c H' d (On lim (Xn (Z.map Fl.settle)) life):=by
 intro dirty
 induction dirty with
 | nil=>
  intro k Z H hk _ hps h
  obtain⟨k,rfl⟩:∃j,k=j+1:=⟨k- 1,by simp at hk;omega⟩
  refine⟨H,by rw[VE,if_neg (by simp)],?_⟩
  have:Z.map Fl.settle=Z:=(List.map_congr_left fun f hf=>by
   obtain⟨i,hi⟩:=List.getElem?_of_mem hf
   refine JhU ?_
   cases hq:f.ps with
   |nil=>rfl
   |cons a r=>exact absurd (hps i f hi (by rw[hq];simp)) (by simp)).trans (List.map_id _)
  rw[this];exact h
 | cons x r ih=>
  intro k Z H hk hin hps h
  obtain⟨k,rfl⟩:∃j,k=j+1:=⟨k- 1,by simp at hk;omega⟩
  obtain⟨hx0,hx1⟩:=hin x (by simp)
  obtain⟨j,rfl⟩:∃j:Nat,x=(j:Int):=⟨x.toNat,by omega⟩
  have hj:j<Z.length:=by omega
  obtain⟨H1,e1,e2⟩:=JfL h (n:=(j:Int)) (f:=Z[j]) (by rw[Qv];exact List.getElem?_eq_getElem hj)
  rw[JcK] at e2
  obtain⟨H',g1,g2⟩:=ih k (Z.set j Z[j].settle) H1 (by simp at hk;omega) (fun y hy=>by simpa using hin y (by simp[hy])) (fun i f hf hq=>by
   rw[List.getElem?_set] at hf
   by_cases hij:j=i
   ·rw[if_pos hij,if_pos (by omega)] at hf
    simp only[Option.some.injEq] at hf
    rw[←hf] at hq
    exact absurd rfl hq
   ·rw[if_neg hij] at hf
    rcases List.mem_cons.1 (hps i f hf hq) with q|q
    ·exact absurd q (by omega)
    ·exact q) e2
  refine⟨H',?_,?_⟩
  ·rw[VE,if_pos (decide_eq_true (by simp only[List.length_cons];omega)),if_pos ⟨by omega,by simp only[List.length_cons];omega⟩]
   have:((j:Int)::r).getD 0 0=(j:Int):=rfl
   rw[this,e1,Option.bind_some]
   simp only[JL,Option.bind_some]
   rw[if_neg (by decide),if_pos ⟨by omega,by simp only[List.length_cons];omega⟩]
   exact g1
  ·have:(Z.set j Z[j].settle).map Fl.settle=Z.map Fl.settle:=by
    rw[List.map_set]
    have e:Z[j].settle.settle=(Z.map Fl.settle)[j]'(by simpa using hj):=by simp[Fl.settle,Fl.all]
    rw[e,List.set_getElem_self]
   rw[this] at g2
   exact g2
theorem JdC {c:Nat} {H:AH} {d:MV} {lim life:Int} {Z:List Fl} (h:Jx c H d (On lim (Xn Z) life)) (n:Nat) (last:Int) {dirty:List Int} (hin:∀x∈dirty,0≤x∧x<(Z.length:Int)) (hps:∀(i:Nat) (f:Fl),Z[i]? =some f→f.ps≠[]→(i:Int)∈dirty):
  ∃H',Vi H d n last dirty=some (0,last,[],H')∧Jx c H' d (On lim (Xn (Z.map Fl.settle)) life):=by
 obtain⟨H',e1,e2⟩:=JkO n last dirty (List.length dirty+1) Z H (by omega) hin hps h
 refine⟨H',?_,e2⟩
 unfold Vi
 rw[Jbg h,Option.bind_some,if_neg (by simp),e1,Option.bind_some]
end Go.St
/- What was safe is told: wakes. -/
namespace Go.St
open Go Go.Gw Go.Dk Go.Fr Go.Proofs.Se.D
set_option linter.unusedSimpArgs false
set_option linter.unusedVariables false
theorem Jho (Z:List Fl) (last:Nat) (h:Z.length≤last+1):low (Xn Z) (last:Int)=Xn Z:=by
 refine List.filter_eq_self.2 fun p hp=> ?_
 have:p.1∈(Xn Z).map (·.1):=List.mem_map.2 ⟨p,hp,rfl⟩
 rw[Jat] at this
 obtain⟨j,hj,hj2⟩:=List.mem_map.1 this
 rw[List.mem_range] at hj
 simp only[decide_eq_true_eq]
 omega
theorem Jce {c:Nat} {H:AH} {d:MV} {lim life:Int} {fs:List (Int×Fl)} (h:Jx c H d (On lim fs life)) (keep:List Bool) (torn at_:Int):
  ∃H1 H2 life',Vh H d keep torn at_=some H1∧Vs H1 d=some H2∧Jx c H2 d (On lim (WG keep torn at_ (Wb fs) 0 fs) life'):=by
 obtain⟨H1,e1,e2⟩:=Ji3 h keep torn at_
 obtain⟨H2,g1,g2⟩:=Jjl e2
 rw[Ji1] at g2
 exact⟨H1,H2,_,e1,g1,g2⟩
def Fl.lose (f:Fl):Fl:=⟨f.s++List.replicate f.ps.flatten.length 0,[]⟩
theorem JgM:∀(ps:List (List Int)) (k:Nat),(Jbx [] (-1) 0 k ps).flatten=List.replicate ps.flatten.length 0:=by
 intro ps
 induction ps with
 |nil=>intro k;rfl
 |cons p r ih=>
  intro k
  simp only[Jbx,List.flatten_cons,ih,Qh,List.length_append]
  rw[if_neg (by omega),if_neg (by simp),←List.replicate_append_replicate]
theorem JcT (f:Fl) (k:Nat):f.crash [] (-1) 0 k=Fl.lose f:=by
 unfold Fl.crash Fl.lose
 rw[JgM]
theorem Jjt:XW=some true:=by
 obtain⟨H,e0,h0⟩:=Jkq 1000 (by decide) (by decide)
 obtain⟨H1,e1,h1⟩:=JdV (show Jx 0 H (.ptr 1 0) (On 1000 [] 0) from h0)
 have byt1:Byt [111,110,101]:=fun x hx=>by simp at hx;rcases hx with rfl|rfl|rfl<;>decide
 obtain⟨H2,x2,Z2,f2,e2,l2,h2,p2⟩:=Xq (Z:=[]) (f:=⟨[],[]⟩) h1 (by decide) (.inl rfl) byt1 (by decide) (by decide) (by decide) (ends:=[]) (dirty:=[]) (by decide) (by decide)
 obtain⟨rfl,rfl⟩:Z2=[]∧f2=⟨[],[frm 1 [111,110,101]]⟩:=by
  cases p2 with
  |here=>exact⟨rfl,rfl⟩
  |next h=>simp[Fl.all] at h
 obtain⟨H3,e3,h3⟩:=JdC (Z:=[⟨[],[frm 1 [111,110,101]]⟩]) h2 (List.length ([]++x2)/2) 0 (dirty:=[0]) (fun x hx=>by simp at hx;subst hx;simp) (fun i f hi hf=>by
  match i with
  |0=>simp
  |i+1=>simp at hi)
 have hs:[(⟨[],[frm 1 [111,110,101]]⟩:Fl)].map Fl.settle=[⟨frm 1 [111,110,101],[]⟩]:=by simp[Fl.settle,Fl.all]
 rw[hs] at h3
 have hl1:(frm 1 [111,110,101]).length=10:=by rw[Wt];rfl
 obtain⟨H4,x4,Z4,f4,e4,l4,h4,p4⟩:=Xq (Z:=[]) (f:=⟨frm 1 [111,110,101],[]⟩) h3 (by decide) (.inr rfl) Byt.nil (by decide) (by simp[tot,Fl.all,hl1]) (fun h=>by simp[Fl.all,hl1] at h) (ends:=[]++x2) (dirty:=[]) (by simp[l2]) (by decide)
 obtain⟨rfl,rfl⟩:Z4=[]∧f4=⟨frm 1 [111,110,101],[frm 2 []]⟩:=by
  cases p4 with
  |here=>exact⟨rfl,rfl⟩
  |next h=>simp[Fl.all,hl1] at h
 obtain⟨H5,H6,life,e5,e6,h6⟩:=Jce h4 [] (-1) 0
 have Jz:Xn ([]++[(⟨frm 1 [111,110,101],[frm 2 []]⟩:Fl)])=[(0,⟨frm 1 [111,110,101],[frm 2 []]⟩)]:=rfl
 rw[Jz,Jht,JcT] at h6
 obtain⟨H7,ends,Z',e7,h7,_,_⟩:=JfK (P:=[]) (p:=[(1,[111,110,101])]) (C:=List.replicate 7 0) (Z:=[]) (f:=Fl.lose ⟨frm 1 [111,110,101],[frm 2 []]⟩) h6 (Jho [_] 0 (by simp)) (by simp) (fun x hx=>by
   simp at hx;subst hx
   intro r hr;simp at hr;subst hr
   exact⟨.inl rfl,by decide,byt1⟩) rfl (by simp[Fl.lose,Fl.all,fl,Wt]) (Byt.rep 7) (Jix _ _ rfl) (fun g hg=>by
   simp at hg;subst hg
   simp[Fl.lose,Fl.all,Wt,hl1]) (by simp)
 unfold XW
 rw[e0,Option.bind_some]
 simp only
 rw[e1,Option.bind_some]
 simp only
 obtain⟨hN,hP⟩:=Jk6 h1
 rw[if_neg (by decide),if_neg (by decide),if_pos (.inr hP),if_neg (by decide)]
 have e2':Js H1 (MV.ptr 1 0) [] 0 [] 1 [111,110,101]=_:=e2
 rw[e2',Option.bind_some]
 simp only
 rw[if_neg (by decide)]
 have e3':Vi H2 (MV.ptr 1 0) (List.length ([]++x2)/2) ((([]:List Fl).length:Nat):Int) (ins [] ((([]:List Fl).length:Nat):Int))=_:=e3
 rw[e3',Option.bind_some]
 simp only
 rw[if_neg (by decide)]
 have e4':Js H3 (MV.ptr 1 0) ([]++x2) 0 [] 2 []=_:=e4
 rw[e4',Option.bind_some]
 simp only
 rw[if_neg (by decide)]
 have hcnt:List.length ([]++x2++x4)/2=2:=by simp[l2,l4]
 rw[hcnt]
 simp only[VG,Option.bind_some]
 rw[if_neg (by decide),e5,Option.bind_some,e6,Option.bind_some,e7,Option.bind_some]
 simp only
 rw[if_pos (by decide),if_pos (by simp),if_pos (by simp)]
 rfl
end Go.St
/- Records in files, one behind the other; StoreFiles. -/
namespace Go.St
open Go Go.Gw Go.Dk Go.Fr Go.Proofs.Se.D
set_option linter.unusedSimpArgs false
set_option linter.unusedVariables false
theorem JjU {l:List R} (h:Ok l):(fl l).length≤2007*l.length:=by
 induction l with
 |nil=>simp[fl]
 |cons r l ih=>
  have:=ih fun x hx=>h x (List.mem_cons_of_mem _ hx)
  have:=(h r (by simp)).2.1
  rw[Jar,List.length_append,Wt,List.length_cons]
  omega
def JgX (rs:List R) (Z:List Fl) (f:Fl):Prop:=
 ∃(P:List (List R)) (p:List R),(P++[p]).flatten=rs∧Z.map Fl.all=P.map fl∧f.all=fl p∧(∀g∈Z,4096≤g.all.length)∧∀g∈Z++[f],g.all.length<6103
theorem Jj4 {rs:List R} {Z Z':List Fl} {f f':Fl} (h:JgX rs Z f) {k:Int} {b:List Int} (hl:b.length≤2000) (hp:Put (frm k b) Z f Z' f'):JgX (rs++[(k,b)]) Z' f':=by
 obtain⟨P,p,e1,e2,e3,e4,e5⟩:=h
 cases hp with
 |here hf=>
  refine⟨P,p++[(k,b)],by rw[←e1];simp,e2,by rw[JiP,e3,Jab];simp[fl],e4,fun g hg=> ?_⟩
  rcases List.mem_append.1 hg with hg|hg
  ·exact e5 g (List.mem_append_left _ hg)
  ·rw[List.mem_singleton.1 hg,JiP,List.length_append,Wt];omega
 | next hf=>
  refine⟨P++[p],[(k,b)],by rw[←e1];simp,by simp[e2,e3],by simp[Fl.all,fl],fun g hg=> ?_,fun g hg=> ?_⟩
  ·rcases List.mem_append.1 hg with hg|hg
   ·exact e4 g hg
   ·rw[List.mem_singleton.1 hg];exact hf
  ·rcases List.mem_append.1 hg with hg|hg
   ·exact e5 g hg
   ·rw[List.mem_singleton.1 hg];simp only[Fl.all,List.nil_append,List.flatten_cons,List.flatten_nil,List.append_nil,Wt];omega
theorem Jc0 (P:List (List R)):fl P.flatten=(P.map fl).flatten:=by
 induction P with
 |nil=>rfl
 |cons p P ih=>rw[List.flatten_cons,Jab,ih];rfl
theorem Jka {rs:List R} {Z:List Fl} {f:Fl} (h:JgX rs Z f):((Z++[f]).map Fl.all).flatten=fl rs:=by
 obtain⟨P,p,e1,e2,e3,_⟩:=h
 rw[←e1,Jc0,List.map_append,List.map_append,e2]
 simp[e3]
theorem Jf4 (Z:List Fl):tot Z=(Z.map Fl.all).flatten.length:=by
 rw[tot,List.length_flatten,List.map_map];rfl
theorem JfM {rs:List R} {Z:List Fl} {f:Fl} (h:JgX rs Z f):tot (Z++[f])=(fl rs).length:=by rw[Jf4,Jka h]
theorem Jkp (Z:List Fl) (h:∀g∈Z,4096≤g.all.length):4096*Z.length≤tot Z:=by
 induction Z with
 |nil=>simp
 |cons g Z ih=>
  have:=ih fun x hx=>h x (List.mem_cons_of_mem _ hx)
  have:=h g (by simp)
  simp only[tot,List.map_cons,List.sum_cons,List.length_cons] at*
  omega
theorem JcL {rs:List R} {Z:List Fl} {f:Fl} (h:JgX rs Z f) (ho:Ok rs):4096*Z.length≤2007*rs.length:=by
 have:=JfM h
 have:=JjU ho
 obtain⟨P,p,_,_,_,e4,_⟩:=h
 have:=Jkp Z e4
 rw[Jdc] at*
 omega
theorem Jfd (l:List Int) (x:Int):(ins l x).length≤l.length+1:=by unfold ins;split<;>simp
theorem JiN {rs:List R} (h:Ok rs) {k:Int} {b:List Int} (hk:Kin k) (hl:b.length≤2000) (hb:Byt b):Ok (rs++[(k,b)]):=by
 intro r hr
 rcases List.mem_append.1 hr with hr|hr
 ·exact h r hr
 ·rw[List.mem_singleton.1 hr];exact⟨hk,hl,hb⟩
theorem Je6 {c:Nat} {H:AH} {d:MV} {life:Int} {Z:List Fl} {f:Fl} (h:Jx c H d (On 131072 (Xn (Z++[f])) life)) (hc:c<1000000) {rs:List R} (hh:JgX rs Z f) (ho:Ok rs) (hn:rs.length≤60) {k:Int} {b:List Int} (hk:Kin k) (hB:Byt b) (hl:b.length≤2000)
  {ends dirty:List Int} (he:ends.length≤1000000) (hd:dirty.length≤1000000):
  ∃H' x Z' f',Js H d ends ((Z.length:Nat):Int) dirty k b=some (0,ends++x,((Z'.length:Nat):Int),ins dirty ((Z'.length:Nat):Int),H')∧x.length=2∧Jx (c+1) H' d (On 131072 (Xn (Z'++[f'])) life)∧Put (frm k b) Z f Z' f'∧JgX (rs++[(k,b)]) Z' f'∧Ok (rs++[(k,b)]):=by
 have e1:=JfM hh
 have e2:=JjU ho
 have e3:=JcL hh ho
 obtain⟨H',x,Z',f',r,lx,h',hp⟩:=Xq h hc hk hB hl (by rw[e1];omega) (fun _=>by omega) (ends:=ends) (dirty:=dirty) he hd
 exact⟨H',x,Z',f',r,lx,h',hp,Jj4 hh hl hp,JiN ho hk hl hB⟩
theorem Jl5 (x:Int):0≤IntKind.u64.wrap x:=by
 show 0≤x%_
 exact Int.emod_nonneg _ (by decide)
def sz (x:Int):Int:=IntKind.i64.wrap ((IntKind.u64.wrap x).tmod (2001:Int))
end Go.St
/- What a crash keeps of one file; StoreCrash. -/
namespace Go.St
open Go Go.Gw Go.Dk Go.Fr Go.Proofs.Se.D
set_option linter.unusedSimpArgs false
set_option linter.unusedVariables false
theorem Jm1 (x m:Int) (h:1≤m) (h2:m≤1000):IntKind.u64.wrap (IntKind.i64.wrap m)≠0∧∃t:Nat,IntKind.i64.wrap ((IntKind.u64.wrap x).tmod (IntKind.u64.wrap (IntKind.i64.wrap m)))=(t:Int)∧(t:Int)<m:=by
 have e1:IntKind.i64.wrap m=m:=Jaw _ (by omega) (by omega)
 have e2:IntKind.u64.wrap m=m:=Cr.u64_small (by omega) (by omega)
 rw[e1,e2]
 have h3:(IntKind.u64.wrap x).tmod m=(IntKind.u64.wrap x)%m:=Int.tmod_eq_emod_of_nonneg (Jl5 x)
 have h4:=Int.emod_nonneg (IntKind.u64.wrap x) (show m≠0 by omega)
 have h5:=Int.emod_lt_of_pos (IntKind.u64.wrap x) (show 0<m by omega)
 refine⟨by omega,((IntKind.u64.wrap x)%m).toNat,?_,?_⟩
 ·rw[h3,Jaw _ (by omega) (by omega)];omega
 ·omega
structure CI (l:List R) (i m:Nat) (H:AH) (d:MV) (ends dirty:List Int) (f:Fl):Prop where
 h:Jx i H d (On 131072 (Xn [f]) 0)
 fs:f.s=fl (l.take m)
 fp:f.ps=((l.take i).drop m).map fun r=>frm r.1 r.2
 mi:m≤i
 il:i≤l.length
 d0:∀x∈dirty,x=0
 d1:f.ps≠[]→0∈dirty
 el:ends.length=2*i
 dl:dirty.length≤i
theorem Jmb (l:List R):fl l=(l.map fun r=>frm r.1 r.2).flatten:=rfl
theorem CI.all {l:List R} {i m:Nat} {H:AH} {d:MV} {ends dirty:List Int} {f:Fl} (c:CI l i m H d ends dirty f):f.all=fl (l.take i):=by
 rw[Fl.all,c.fs,c.fp,←Jmb,←Jab]
 congr 1
 rw[show l.take m=(l.take i).take m by rw[List.take_take,Nat.min_eq_left c.mi],List.take_append_drop]
theorem CI.sync {l:List R} {i m:Nat} {H:AH} {d:MV} {ends dirty:List Int} {f:Fl} (c:CI l i m H d ends dirty f) (n:Nat):∃H',Vi H d n 0 dirty=some (0,0,[],H')∧CI l i i H' d ends [] f.settle:=by
 obtain⟨H',e,h'⟩:=JdC (Z:=[f]) c.h n 0 (dirty:=dirty) (fun x hx=>by rw[c.d0 x hx];simp) (fun j g hj hg=>by
  match j with
  |0=>simp at hj;subst hj;exact c.d1 hg
  |j+1=>simp at hj)
 refine⟨H',e,⟨h',?_,?_,Nat.le_refl _,c.il,(fun x hx=>by cases hx),(fun hx=>absurd rfl hx),c.el,by simp⟩⟩
 ·exact c.all
 ·have:(l.take i).drop i=[]:=List.drop_eq_nil_of_le (by rw[List.length_take];omega)
  rw[this];rfl
theorem CI.append {l:List R} {i m:Nat} {H:AH} {d:MV} {ends dirty:List Int} {f:Fl} (c:CI l i m H d ends dirty f) (ho:Ok l) (hi:i<l.length) (hl:(fl l).length≤4096) (hn:l.length≤1000):
  ∃H' x f',Js H d ends 0 dirty l[i].1 l[i].2=some (0,ends++x,0,ins dirty 0,H')∧CI l (i+1) m H' d (ends++x) (ins dirty 0) f':=by
 have hr:=ho _ (List.getElem_mem hi)
 have e1:(fl (l.take i)).length+(7+l[i].2.length)≤(fl l).length:=by
  have e:fl l=fl (l.take i)++fl (l.drop i):=by rw[←Jab,List.take_append_drop]
  rw[e,List.drop_eq_getElem_cons hi,Jar,List.length_append,List.length_append,Wt];omega
 have ea:f.all.length<4096:=by rw[c.all];omega
 have et:tot ([]++[f])=f.all.length:=by simp[tot]
 obtain⟨H',x,Z',f',e,lx,h',hp⟩:=Xq (Z:=[]) (f:=f) c.h (by have:=c.il;omega) hr.1 hr.2.2 hr.2.1 (by rw[et,c.all];omega) (fun h=>by omega) (ends:=ends) (dirty:=dirty) (by have:=c.el;omega) (by have:=c.dl;omega)
 obtain⟨rfl,rfl⟩:Z'=[]∧f'=⟨f.s,f.ps++[frm l[i].1 l[i].2]⟩:=by
  cases hp with
  |here=>exact⟨rfl,rfl⟩
  |next h=>omega
 refine⟨H',x,_,e,⟨h',c.fs,?_,by have:=c.mi;omega,hi,?_,?_,by simp[c.el,lx];omega,by have:=Jfd dirty 0;have:=c.dl;omega⟩⟩
 ·simp only
  rw[c.fp,List.take_succ_eq_append_getElem hi,List.drop_append_of_le_length (by rw[List.length_take];have:=c.mi;omega),List.map_append]
  rfl
 ·intro y hy
  unfold ins at hy
  split at hy
  ·exact c.d0 y hy
  ·rcases List.mem_append.1 hy with hy|hy
   ·exact c.d0 y hy
   ·exact List.mem_singleton.1 hy
 ·intro _
  unfold ins
  split
  ·assumption
  ·simp
def Jm7 (q:Int) (i:Nat):List MV:=(List.range 30).map fun j=>if j<i then MV.bool ((j:Int) !=q) else MV.bool false
theorem Jmz (q:Int) (i:Nat):AH.isRow [MO.row 4 1 (Jm7 q i)] 1 (MV.slc (List.length ([]:AH)) 1 0 30)=true:=rfl
theorem JfI (q:Int) (i:Nat) (hi:i<30):AH.ok [MO.row 4 1 (Jm7 q i)] (MV.slc (List.length ([]:AH)) 1 0 30) (i*1+0) 1=true:=by
 have h:(AH.fl [MO.row 4 1 (Jm7 q i)] 0).length=30:=rfl
 unfold AH.ok
 simp only[Jmz,Bool.true_and,MV.ob,List.length_nil,h,MV.ix]
 exact Nat.ble_eq_true_of_le (by omega)
end Go.St
/- What is no frame ends what is told; StoreJunk. -/
namespace Go.St
open Go Go.Gw Go.Dk Go.Fr Go.Proofs.Se.D
set_option linter.unusedSimpArgs false
set_option linter.unusedVariables false
theorem Jh7 {l:List R} {i:Nat} (hi:i<l.length):l.take (i+1)=l.take i++[(l[i].1,l[i].2)]:=List.take_succ_eq_append_getElem hi
theorem Jiv {c:Nat} {H:AH} {d:MV} {life:Int} {fs:List (Int×Fl)} {l:List R} {Z:List Fl} {f:Fl} {C:List Int} (h:Jx c H d (On 131072 fs life)) (hh:JgX l Z f) (ho:Ok l) (hn:l.length≤60) (f':Fl) (hf:f'.all=f.all++C) (hC:Byt C) (hc:C.length≤5000) (hst:∀p,Stop p C)
  (hlow:low fs ((Z.length:Nat):Int)=Xn (Z++[f'])) (hgn:C=[]→WM fs ((Z.length+1:Nat):Int)=none):
  ∃H' e Z' f'',Wc H d=some (d,e,((Z.length:Nat):Int),[],l,0,H')∧Jx c H' d (On 131072 (Xn (Z'++[f''])) life)∧JgX l Z' f''∧Z'.length=Z.length∧e.length=2*l.length∧(∀g∈Z'++[f''],g.ps=[]):=by
 have hz:=JcL hh ho
 obtain⟨P,p,e1,e2,e3,e4,e5⟩:=hh
 have hok:∀x∈P++[p],Ok x:=fun x hx r hr=>ho r (by rw[←e1];exact List.mem_flatten.2 ⟨x,hx,hr⟩)
 obtain⟨H',ends,Z',r,h',hZ',hl⟩:=JfK h hlow hgn hok e2 (by rw[hf,e3]) hC (hst p) (fun g hg=>by
  rcases List.mem_append.1 hg with hg|hg
  ·have:=e5 g (List.mem_append_left _ hg);omega
  ·have:=e5 f (by simp);rw[List.mem_singleton.1 hg,hf,List.length_append];omega) (by rw[e1];omega)
 rw[e1] at r hl
 have hlen:P.length=Z.length:=by have:=congrArg List.length e2;simpa using this.symm
 have hall:Z'.map Fl.all=(P++[p]).map fl:=by rw[hZ',List.map_map];exact List.map_congr_left fun x _=>by simp[Fl.all]
 have hZ2:Z'=P.map (fun x=>(⟨fl x,[]⟩:Fl))++[⟨fl p,[]⟩]:=by rw[hZ'];simp
 rw[hZ2] at h'
 refine⟨H',ends,P.map (fun x=>(⟨fl x,[]⟩:Fl)),⟨fl p,[]⟩,r,h',⟨P,p,e1,?_,by simp[Fl.all],?_,?_⟩,by simp[hlen],hl,?_⟩
 ·rw[List.map_map];exact List.map_congr_left fun x _=>by simp[Fl.all]
 ·intro g hg
  obtain⟨x,hx,rfl⟩:=List.mem_map.1 hg
  have:fl x∈Z.map Fl.all:=by rw[e2];exact List.mem_map_of_mem hx
  obtain⟨g0,hg0,hg1⟩:=List.mem_map.1 this
  have:=e4 g0 hg0
  simpa[Fl.all,←hg1] using this
 ·intro g hg
  rcases List.mem_append.1 hg with hg|hg
  ·obtain⟨x,hx,rfl⟩:=List.mem_map.1 hg
   have:fl x∈Z.map Fl.all:=by rw[e2];exact List.mem_map_of_mem hx
   obtain⟨g0,hg0,hg1⟩:=List.mem_map.1 this
   have:=e5 g0 (List.mem_append_left _ hg0)
   simpa[Fl.all,←hg1] using this
  ·rw[List.mem_singleton.1 hg]
   have:=e5 f (by simp)
   simpa[Fl.all,←e3] using this
 ·intro g hg
  rcases List.mem_append.1 hg with hg|hg
  ·obtain⟨x,hx,rfl⟩:=List.mem_map.1 hg;rfl
  ·rw[List.mem_singleton.1 hg]
end Go.St

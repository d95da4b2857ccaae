/- Memory that leads to memory: what its meaning hangs on. -/
import Derived.Test.YtdbheiibkpendaaGreatDoorGw0
namespace Go.Gw
open Go.RowKit
theorem SkPre.refl (s:Value):SkPre s s:=⟨Nat.le_refl _,fun _ _=>rfl⟩
theorem SkPre.trans {a b c:Value} (h:SkPre a b) (k:SkPre b c):SkPre a c:=
 ⟨Nat.le_trans h.1 k.1,fun i hi=>(k.2 i (Nat.lt_of_lt_of_le hi h.1)).trans (h.2 i hi)⟩
theorem MV.den_pre {s s':Value} {v:MV} (h:SkPre s s') (hb:v.bd≤(Qg s).length):v.den s'=v.den s:=by
 cases v<;>first
  |rfl
  |(simp only [MV.bd] at hb;simp only[MV.den];rw[h.2 _ (by omega)])
theorem JaS {l:List Nat} {n:Nat} (h:l.foldr max 0≤n):∀x∈l,x≤n:=by
 induction l with
 |nil=>intro x hx;cases hx
 |cons a r ih=>
  intro x hx
  simp only[List.foldr_cons] at h
  rcases List.mem_cons.1 hx with rfl|hx
  ·omega
  ·exact ih (by omega) x hx
theorem Jbj {l:List Nat} {n:Nat} (h:∀x∈l,x≤n):l.foldr max 0≤n:=by
 induction l with
 |nil=>exact Nat.zero_le _
 |cons a r ih=>
  simp only[List.foldr_cons]
  have:=h a (by simp)
  have:=ih fun x hx=>h x (by simp[hx])
  omega
theorem JbD {l:List MV} {n:Nat} (h:(l.map MV.bd).foldr max 0≤n):∀v∈l,v.bd≤n:=fun v hv=>
 JaS h _ (List.mem_map.2 ⟨v,hv,rfl⟩)
theorem Yr {l:List MV} {n:Nat} (h:∀v∈l,v.bd≤n):(l.map MV.bd).foldr max 0≤n:=
 Jbj fun x hx=>by obtain⟨v,hv,rfl⟩:=List.mem_map.1 hx;exact h v hv
theorem Qd {s s':Value} {l:List MV} (h:SkPre s s') (hb:∀v∈l,v.bd≤(Qg s).length):l.map (MV.den s')=l.map (MV.den s):=
 List.map_congr_left fun v hv=>MV.den_pre h (hb v hv)
theorem MO.at_keep {w w':World} {s v:Value} {o:MO} (hb:∀b,o.live=true→QS v=some b→w'.heap[b]? =w.heap[b]?) (h:o.at w s v):o.at w' s v:=by
 cases o with
 |cells ty l=>
  obtain⟨b,h1,h2⟩:=h
  exact⟨b,h1,(hb b rfl (by simp[h1,QS])).trans h2⟩
 |row e sz l=>
  obtain⟨n,h1,h0,h2|⟨b,off,cap,c,h2,h3,h4⟩⟩:=h
  ·exact⟨n,h1,h0,.inl h2⟩
  ·exact⟨n,h1,h0,.inr ⟨b,off,cap,c,h2,(hb b rfl (by simp[h2,QS])).trans h3,h4⟩⟩
 |map l=>
  obtain⟨b,es,clock,h1,h2,h3⟩:=h
  exact⟨b,es,clock,h1,(hb b rfl (by simp[h1,QS])).trans h2,h3⟩
 |dead=>trivial
theorem MO.at_pre {w:World} {s s' v:Value} {o:MO} (hs:SkPre s s') (hb:o.bd≤(Qg s).length) (h:o.at w s v):o.at w s' v:=by
 cases o with
 |cells ty l=>
  obtain⟨b,h1,h2⟩:=h
  refine⟨b,h1,?_⟩
  rw[Qd hs (JbD hb)]
  exact h2
 |row e sz l=>
  obtain⟨n,h1,h0,h2|⟨b,off,cap,c,h2,h3,h4,h5,h6,h7,h8⟩⟩:=h
  ·exact⟨n,h1,h0,.inl h2⟩
  ·exact⟨n,h1,h0,.inr ⟨b,off,cap,c,h2,h3,h4,h5,h6,h7.trans (Qd hs (JbD hb)).symm,h8⟩⟩
 |map l=>
  obtain⟨b,es,clock,h1,h2,h3,h4,h5⟩:=h
  refine⟨b,es,clock,h1,h2,h3.trans (List.map_congr_left fun p hp=> ?_),h4,h5⟩
  have:=JaS hb p.2.bd (List.mem_map.2 ⟨p,hp,rfl⟩)
  rw[MV.den_pre hs this]
 |dead=>trivial
theorem MO.at_lt {w:World} {s v:Value} {o:MO} (h:o.at w s v) (hl:o.live=true) {b:Nat} (hb:QS v=some b):b<w.heap.size:=by
 cases o with
 |cells ty l=>
  obtain⟨b',h1,h2⟩:=h
  simp[h1,QS] at hb
  subst hb
  exact(Array.getElem?_eq_some_iff.1 h2).1
 | row e sz l=>
  obtain⟨n,h1,h0,h2|⟨b',off,cap,c,h2,h3,h4⟩⟩:=h
  ·simp[h2.1,QS] at hb
  ·simp[h2,QS] at hb
   subst hb
   exact(Array.getElem?_eq_some_iff.1 h3).1
 |map l=>
  obtain⟨b',es,clock,h1,h2,h3⟩:=h
  simp[h1,QS] at hb
  subst hb
  exact(Array.getElem?_eq_some_iff.1 h2).1
 |dead=>cases hl
theorem Jgr {H:AH} {i:Nat} (h:H.length≤i):AH.at H i= .dead:=by simp[AH.at,List.getD,List.getElem?_eq_none h]
theorem WN {H:AH} {i:Nat} (h:(AH.at H i).live=true):i<H.length:=by
 rcases Nat.lt_or_ge i H.length with h1|h1
 ·exact h1
 ·rw[Jgr h1] at h;cases h
theorem Ar.keep {w w':World} {s:Value} {H:AH} (hb:∀b,Ve s H b→w'.heap[b]? =w.heap[b]?) (h:Ar w s H):Ar w' s H:=
 ⟨h.enc,h.len,fun i hi=>MO.at_keep (fun b hl hb'=>hb b ⟨i,hl,hb'⟩) (h.obj i hi),h.apart,h.bd⟩
theorem Ar.lt {w:World} {s:Value} {H:AH} (h:Ar w s H) {b:Nat} (hb:Ve s H b):b<w.heap.size:=by
 obtain⟨i,h1,h2⟩:=hb
 exact MO.at_lt (h.obj i (WN h1)) h1 h2
theorem RdB.keep {w w':World} {v:Value} {l:List Bool} (hs:w.heap.size≤w'.heap.size) (hb:∀b,YP v=some b→w'.heap[b]? =w.heap[b]?) (h:RdB w v l):RdB w' v l:=by
 rcases h with ha|⟨a,cap,h1,h2,h3,h4,h5,h6⟩
 ·exact .inl ha
 ·refine .inr ⟨a,cap,h1,h2,h3,by omega,h5,fun i hi=> ?_⟩
  rw[World.cell?_of_block (w:=w)]
  ·exact h6 i hi
  ·have:(a.add i).block=a.block:=by unfold Addr.add;split<;>rfl
   rw[this]
   refine hb a.block ?_
   rw[h1]
   obtain⟨c,rfl⟩:∃c,cap=c+1:=⟨cap- 1,by omega⟩
   rfl
theorem RdB.lt {w:World} {v:Value} {l:List Bool} (h:RdB w v l) {b:Nat} (hb:YP v=some b):b<w.heap.size:=by
 rcases h with⟨⟨o,h⟩,_⟩|⟨a,cap,h1,h2,_,h4,_⟩
 ·rw[h] at hb
  have:YP (.slice o 0 0)=none:=by cases o<;>rfl
  rw[this] at hb;cases hb
 ·have:Jw v=some b:=by
   unfold YP at hb
   split at hb
   ·exact hb
   ·exact hb
   ·cases hb
  simp[h1,Jw] at this;subst this;exact h4
end Go.Gw

/- Memory that leads to memory, as plain data: what is read where, once an object is known. -/
import Derived.Test.YtdbheiibkpendaaGreatDoorGw0
import Derived.Test.YtdbheiibkpendaaGreatDoorGwB
import Derived.Test.YtdbheiibkpendaaGreatDoorSeD
namespace Go.Dk
open Go Go.Gw
theorem at_lt {H:AH} {i:Nat} {o:MO} (h:AH.at H i=o) (hl:o.live=true):i<H.length:=WN (by rw[h];exact hl)
theorem VS {H:AH} {i:Nat} {o o':MO} (h:AH.at H i=o) (hl:o.live=true):AH.at (H.set i o') i=o':=Jgo (at_lt h hl)
theorem YO {H:AH} {i:Nat} {o o':MO} (h:AH.at H i=o) (hl:o.live=true):AH.at (H++[o']) i=o:=(JaG (at_lt h hl)).trans h
theorem Jb0 (H:AH) (o:MO):AH.at (H++[o]) H.length=o:=YH H o
section
variable {H:AH} {i:Nat} {ty e sz:Nat} {l:List MV}
theorem okP (h:AH.at H i= .cells ty l) (off j n:Nat):AH.ok H (.ptr i off) j n=Nat.ble (off+j+n) l.length:=by simp[AH.ok,AH.fl,MV.ob,MV.ix,h,MO.flat]
theorem rdP (h:AH.at H i= .cells ty l) (off j:Nat):AH.rd H (.ptr i off) j=l.getD (off+j) .nilp:=by simp[AH.rd,AH.fl,MV.ob,MV.ix,h,MO.flat]
theorem wrP (h:AH.at H i= .cells ty l) (off j:Nat) (vs:List MV):AH.wr H (.ptr i off) j vs=H.set i (.cells ty (Jgw l (off+j) vs)):=by simp[AH.wr,MV.ob,MV.ix,h,MO.put]
theorem YA {l:List (Int×MV)} (h:AH.at H i= .map l):AH.isMap H (.map i)=true:=by simp[AH.isMap,h]
theorem lookM' {l:List (Int×MV)} (h:AH.at H i= .map l) (n:Int):AH.look H (.map i) n=QW l n:=by simp[AH.look,MV.ob,h,MO.ents]
theorem JmZ {l:List (Int×MV)} (h:AH.at H i= .map l) (n:Int) (x:MV):AH.mset H (.map i) n x=H.set i (.map (Jha l n x)):=by simp[AH.mset,MV.ob,h,MO.ents]
theorem JmW {l:List (Int×MV)} (h:AH.at H i= .map l) (n:Int):AH.mdel H (.map i) n=H.set i (.map (Jgq l n)):=by simp[AH.mdel,MV.ob,h,MO.ents]
theorem Jmr {l:List (Int×MV)} (h:AH.at H i= .map l):(AH.at H (MV.map i).ob).ents=l:=by simp[MV.ob,h,MO.ents]
theorem JfG (h:AH.at H i= .row e sz l) (lo n:Nat) (hl:lo*sz+n*sz≤l.length):AH.isRow H sz (.slc i sz lo n)=true:=by
 simp[AH.isRow,h,Nat.beq_refl]
 exact hl
theorem okS (h:AH.at H i= .row e sz l) (lo n j k:Nat) (hl:lo*sz+n*sz≤l.length):AH.ok H (.slc i sz lo n) j k=Nat.ble (lo*sz+j+k) l.length:=by
 simp[AH.ok,JfG h lo n hl,AH.fl,MV.ob,MV.ix,h,MO.flat]
theorem rdS (h:AH.at H i= .row e sz l) (lo n j:Nat):AH.rd H (.slc i sz lo n) j=l.getD (lo*sz+j) .nilp:=by simp[AH.rd,AH.fl,MV.ob,MV.ix,h,MO.flat]
theorem Jmc (h:AH.at H i= .row e sz l) (lo n:Nat):AH.view H (.slc i sz lo n)=(l.drop (lo*sz)).take (n*sz):=by simp[AH.view,AH.fl,h,MO.flat]
theorem wrS (h:AH.at H i= .row e sz l) (lo n j:Nat) (vs:List MV):AH.wr H (.slc i sz lo n) j vs=H.set i (.row e sz (Jgw l (lo*sz+j) vs)):=by simp[AH.wr,MV.ob,MV.ix,h,MO.put]
end
def Jt (sz:Nat):Option Nat→Nat→MV
 |none,_=> .nils
 |some r,n=> .slc r sz 0 n
def Xh (H:AH) (e sz:Nat):Option Nat→List MV→Prop
 |none,l=>l=[]
 |some r,l=>AH.at H r= .row e sz l
section
variable {H:AH} {x:Option Nat} {e sz n:Nat} {l:List MV}
theorem WI (h:Xh H e sz x l) (hl:l.length=n*sz):AH.isRow H sz (Jt sz x n)=true:=by
 cases x with
 |none=>rfl
 |some r=>exact JfG h 0 n (by omega)
theorem Jle (h:Xh H e sz x l) (hl:l.length=n*sz) (hs:0<sz):(Jt sz x n).len=n:=by
 cases x with
 | none=>
  have:l=[]:=h
  subst this
  have hl:0=n*sz:=hl
  have:n=0:=by
   rcases Nat.mul_eq_zero.1 hl.symm with h|h
   ·exact h
   ·omega
  subst this;rfl
 |some r=>rfl
theorem Jmt:(Jt sz x n).lo=0:=by cases x<;>rfl
theorem Jgg (h:Xh H e sz x l) (hl:l.length=n*sz):AH.view H (Jt sz x n)=l:=by
 cases x with
 |none=>exact(show l=[] from h).symm
 |some r=>simp only[Jt,Jmc h,Nat.zero_mul,List.drop_zero];exact List.take_of_length_le (by omega)
theorem JiM (h:Xh H e sz x l) (j:Nat) (hj:j<l.length):AH.rd H (Jt sz x n) j=l.getD j .nilp:=by
 cases x with
 |none=>rw[show l=[] from h] at hj;cases hj
 |some r=>simp only[Jt,rdS h,Nat.zero_mul,Nat.zero_add]
theorem JfI (h:Xh H e sz x l) (hl:l.length=n*sz) (j k:Nat) (hj:j+k≤l.length) (hk:0<k):AH.ok H (Jt sz x n) j k=true:=by
 cases x with
 |none=>rw[show l=[] from h] at hj;simp at hj;omega
 |some r=>simp only[Jt,okS h 0 n j k (by omega),Nat.zero_mul,Nat.zero_add];exact Nat.ble_eq_true_of_le hj
theorem JkN (h:Xh H e sz x l) (hl:l.length=n*sz):AH.isEnd H e sz (Jt sz x n)=true:=by
 cases x with
 |none=>rfl
 |some r=>
  have h':AH.at H r= .row e sz l:=h
  simp[Jt,AH.isEnd,h',Nat.beq_refl,hl]
theorem JfW (k:IntKind) (l:List Int):(l.map (MV.int k)).map MV.num=l:=by
 rw[List.map_map];exact(List.map_congr_left fun x _=>rfl).trans (List.map_id l)
theorem JiJ (k:IntKind) (l:List Int):(l.map (MV.int k)).all (MV.isI k)=true:=by
 rw[List.all_eq_true]
 intro x hx
 obtain⟨n,_,rfl⟩:=List.mem_map.1 hx
 cases k<;>rfl
theorem JfE {k:IntKind} {l:List Int} (h:Xh H e 1 x (l.map (.int k))):AH.ints H (Jt 1 x l.length)=l∧AH.isInts H k (Jt 1 x l.length)=true:=by
 have hl:(l.map (MV.int k)).length=l.length*1:=by simp
 unfold AH.ints AH.isInts
 rw[Jgg h hl,WI h hl]
 exact⟨JfW k l,by simp only[Bool.true_and];exact JiJ k l⟩
theorem Jex {k:IntKind} {l:List Int} (h:Xh H e 1 x (l.map (.int k))) (a b:Nat) (hab:a≤b) (hb:b≤l.length):
  AH.ints H ((Jt 1 x l.length).sub a b)=(l.take b).drop a∧AH.isInts H k ((Jt 1 x l.length).sub a b)=true:=by
 cases x with
 |none=>
  have:l=[]:=by simpa[Xh] using h
  subst this
  simp at hb;subst hb
  obtain rfl:a=0:=by omega
  exact⟨rfl,rfl⟩
 | some r=>
  have h':AH.at H r= .row e 1 (l.map (.int k)):=h
  have h1:=JfG h' a (b-a) (by simp;omega)
  simp only[Jt,MV.sub,AH.ints,AH.isInts,Nat.zero_add,h1,Jmc h',Bool.true_and,Nat.mul_one]
  have e1:((l.map (MV.int k)).drop a).take (b-a)=((l.take b).drop a).map (MV.int k):=by
   rw[←List.map_drop,←List.map_take,List.take_drop,Nat.add_sub_cancel' hab]
  rw[e1]
  exact⟨JfW k _,JiJ k _⟩
end
theorem Jlw {H:AH} {v:MV} {e sz:Nat} {ys:List MV} {j:Nat} {o:MO} (h:AH.at H j=o) (hl:o.live=true) (hj:∀r,v= .slc r sz 0 v.len→r≠j) (hv:v= .nils∨∃r,v= .slc r sz 0 v.len):AH.at (AH.app H v e sz ys) j=o:=by
 have hlt:=at_lt h hl
 unfold AH.app
 rcases hv with rfl|⟨r,hr⟩
 ·rw[JaG (by simpa[MV.dies] using hlt)];exact h
 ·have hne:=hj r hr
  rw[hr]
  simp only[MV.dies]
  rw[JaG (by simpa using hlt),Vg hne]
  exact h
theorem JhS {H:AH} {v:MV}:(MV.dies v H).length=H.length:=by cases v<;>simp[MV.dies]
theorem Jll {H:AH} {v:MV} {e sz:Nat} {ys:List MV}:AH.at (AH.app H v e sz ys) H.length= .row e sz (AH.view H v++ys):=by
 unfold AH.app
 have h:= @JhS H v
 rw[←h]
 exact YH _ _
end Go.Dk
/- A disk as plain data, and where it lies in an arena: its files, what is done to one file. -/
namespace Go.Dk
open Go Go.Gw Go.Proofs.Se.D
structure Fl where
 s:List Int
 ps:List (List Int)
def Fl.all (f:Fl):List Int:=f.s++f.ps.flatten
def Fl.settle (f:Fl):Fl:=⟨f.all,[]⟩
def Qh (keep:List Bool) (torn at_:Int) (k:Nat) (p:List Int):List Int:=
 if(k:Int)=torn then p.take at_.toNat++List.replicate (p.length-at_.toNat) 0
 else if keep.getD k false=true then p else List.replicate p.length 0
def Jbx (keep:List Bool) (torn at_:Int):Nat→List (List Int)→List (List Int)
 |_,[]=>[]
 |k,p::ps=>Qh keep torn at_ k p::Jbx keep torn at_ (k+1) ps
theorem Jdn (keep:List Bool) (torn at_:Int) (k:Nat) (p:List Int):(Qh keep torn at_ k p).length=p.length:=by
 unfold Qh;split
 ·simp;omega
 ·split<;>simp
def Wz:Nat→List (List Int)→List Int
 |_,[]=>[]
 |n,p::ps=>((n+p.length:Nat):Int)::Wz (n+p.length) ps
theorem Wo (n:Nat) (ps:List (List Int)):(Wz n ps).length=ps.length:=by
 induction ps generalizing n with
 |nil=>rfl
 |cons p ps ih=>simp[Wz,ih]
theorem JcS (n:Nat) (ps qs:List (List Int)):Wz n (ps++qs)=Wz n ps++Wz (n+ps.flatten.length) qs:=by
 induction ps generalizing n with
 |nil=>simp[Wz]
 |cons p ps ih=>simp[Wz,ih,Nat.add_assoc]
theorem JeB (n:Nat) {ps qs:List (List Int)} (h:ps.map List.length=qs.map List.length):Wz n ps=Wz n qs:=by
 induction ps generalizing n qs with
 |nil=>cases qs with
  |nil=>rfl
  |cons=>cases h
 | cons p ps ih=>cases qs with
  |nil=>cases h
  |cons q qs=>
   simp only[List.map_cons,List.cons.injEq] at h
   simp only[Wz,h.1,ih _ h.2]
structure Fs where
 j:Nat
 b:Option Nat
 e:Option Nat
 F:Fl
def Fs.objs (f:Fs):List Nat:=f.j::(f.b.toList++f.e.toList)
structure Fs.At (H:AH) (f:Fs):Prop where
 c:AH.at H f.j= .cells 98 [Jt 1 f.b f.F.all.length,.int .i64 (f.F.s.length:Int),Jt 1 f.e f.F.ps.length]
 b:Xh H 5 1 f.b (f.F.all.map (.int .u8))
 e:Xh H 3 1 f.e ((Wz f.F.s.length f.F.ps).map (.int .i64))
 n:f.b=none→f.F.all=[]∧f.F.ps=[]
theorem Fs.At.live {H:AH} {f:Fs} (h:f.At H) {x:Nat} (hx:x∈f.objs):(AH.at H x).live=true:=by
 simp only[Fs.objs,List.mem_cons,List.mem_append,Option.mem_toList] at hx
 rcases hx with rfl|hx|hx
 ·rw[h.c];rfl
 ·have:=h.b;rw[hx] at this;rw[show AH.at H x=_ from this];rfl
 ·have:=h.e;rw[hx] at this;rw[show AH.at H x=_ from this];rfl
theorem Fs.At.kind {H:AH} {f:Fs} (h:f.At H) {x:Nat} (hx:x∈f.objs):(∃l,AH.at H x= .cells 98 l)∨(∃l,AH.at H x= .row 5 1 l)∨∃l,AH.at H x= .row 3 1 l:=by
 simp only[Fs.objs,List.mem_cons,List.mem_append,Option.mem_toList] at hx
 rcases hx with rfl|hx|hx
 ·exact .inl ⟨_,h.c⟩
 ·have:=h.b;rw[hx] at this;exact .inr (.inl ⟨_,this⟩)
 ·have:=h.e;rw[hx] at this;exact .inr (.inr ⟨_,this⟩)
structure FUpd (H H':AH) (f f':Fs):Prop where
 keep:∀x o,AH.at H x=o→o.live=true→x∉f.objs→AH.at H' x=o
 len:H.length≤H'.length
 at':f'.At H'
 j:f'.j=f.j
 objs:∀x∈f'.objs,x∈f.objs∨H.length≤x
theorem FUpd.refl {H:AH} {f:Fs} (h:f.At H):FUpd H H f f:=⟨fun _ _ h _ _=>h,Nat.le_refl _,h,rfl,fun _ h=> .inl h⟩
theorem FUpd.trans {H H' H'':AH} {f f' f'':Fs} (h:FUpd H H' f f') (g:FUpd H' H'' f' f''):FUpd H H'' f f'':=by
 refine⟨fun x o hx hl hn=>g.keep x o (h.keep x o hx hl hn) hl fun hm=> ?_,Nat.le_trans h.len g.len,g.at',g.j.trans h.j,fun x hx=> ?_⟩
 ·rcases h.objs x hm with q|q
  ·exact hn q
  ·have:=at_lt hx hl;omega
 ·rcases g.objs x hx with q|q
  ·exact h.objs x q
  ·exact .inr (Nat.le_trans h.len q)
theorem FUpd.set {H:AH} {f f':Fs} {x:Nat} {o:MO} (hx:x∈f.objs) (ha:f'.At (H.set x o)) (hj:f'.j=f.j) (ho:∀y∈f'.objs,y∈f.objs):FUpd H (H.set x o) f f':=
 ⟨fun y o' h _ hn=>(Vg (by intro e;subst e;exact hn hx)).trans h,by simp,ha,hj,fun y hy=> .inl (ho y hy)⟩
theorem JeF {H:AH} {e sz:Nat} {x:Option Nat} {l:List MV} {i:Nat} {o:MO} (h:Xh H e sz x l) (hi:∀r,x=some r→i≠r):Xh (H.set i o) e sz x l:=by
 cases x with
 |none=>exact h
 |some r=>exact(Vg (hi r rfl)).trans h
theorem Jlj {H:AH} {r:Nat} {bs:List Int} (h:AH.at H r= .row 5 1 (bs.map (.int .u8))) (a n:Nat):
  AH.clr H (.slc r 1 a n) [.int .u8 0]=H.set r (.row 5 1 ((bs.take a++(List.replicate n 0++bs.drop (a+n))).map (.int .u8))):=by
 have e:(List.replicate n [MV.int .u8 0]).flatten=(List.replicate n (0:Int)).map (MV.int .u8):=by
  rw[List.map_replicate]
  induction n with
  |zero=>rfl
  |succ n ih=>simp only[List.replicate_succ,List.flatten_cons,ih];rfl
 simp only[AH.clr,MV.len,e]
 rw[wrS h]
 simp only[Jgw,List.map_append,List.map_take,List.map_drop,Nat.mul_one,Nat.add_zero,List.length_map,List.length_replicate]
theorem Xw {x:Option Nat} {l:List MV} {H:AH} {e n:Nat} (h:Xh H e 1 x l) (hl:l.length=n):(Jt 1 x n).len=n:=Jle h (by omega) (by decide)
theorem okC {H:AH} {j ty:Nat} {l:List MV} (h:AH.at H j= .cells ty l) (k:Nat):AH.ok H (.ptr j 0) k 1=Nat.ble (k+1) l.length:=by rw[okP h,Nat.zero_add]
theorem rdC {H:AH} {j ty:Nat} {l:List MV} (h:AH.at H j= .cells ty l) (k:Nat):AH.rd H (.ptr j 0) k=l.getD k .nilp:=by rw[rdP h,Nat.zero_add]
theorem wrC {H:AH} {j ty:Nat} {l:List MV} (h:AH.at H j= .cells ty l) (k:Nat) (vs:List MV):AH.wr H (.ptr j 0) k vs=H.set j (.cells ty (Jgw l k vs)):=by rw[wrP h,Nat.zero_add]
theorem JbX {H:AH} {f:Fs} (h:f.At H):∃H' f',JN H (.ptr f.j 0)=some H'∧FUpd H H' f f'∧f'.F=f.F.settle:=by
 have hl:(f.F.all.map (MV.int .u8)).length=f.F.all.length:=by simp
 have e1:AH.rd H (.ptr f.j 0) 0=Jt 1 f.b f.F.all.length:=rdC h.c 0
 have e2:AH.wr H (.ptr f.j 0) 1 [.int .i64 (f.F.all.length:Int)]=H.set f.j (.cells 98 [Jt 1 f.b f.F.all.length,.int .i64 (f.F.all.length:Int),Jt 1 f.e f.F.ps.length]):=wrC h.c 1 _
 have e3:= @VS H f.j _ (.cells 98 [Jt 1 f.b f.F.all.length,.int .i64 (f.F.all.length:Int),Jt 1 f.e f.F.ps.length]) h.c rfl
 have e4:AH.wr (H.set f.j (.cells 98 [Jt 1 f.b f.F.all.length,.int .i64 (f.F.all.length:Int),Jt 1 f.e f.F.ps.length])) (.ptr f.j 0) 2 [.nils]=H.set f.j (.cells 98 [Jt 1 f.b f.F.all.length,.int .i64 (f.F.all.length:Int),.nils]):=(wrC e3 2 _).trans (List.set_set ..)
 have e5:AH.isRow H 1 (Jt 1 f.b f.F.all.length)=true:=WI h.b (by simp)
 have e6:JN H (.ptr f.j 0)=some (H.set f.j (.cells 98 [Jt 1 f.b f.F.all.length,.int .i64 (f.F.all.length:Int),.nils])):=by
  unfold JN
  simp only[okC h.c,e1,e5,Xw h.b hl,e2,okC e3,e4,MV.isP,List.length_cons,List.length_nil,Nat.reduceAdd,Nat.reduceLeDiff,Nat.ble_eq,and_self,if_true]
 refine⟨_,⟨f.j,f.b,none,f.F.settle⟩,e6,?_,rfl⟩
 have hs:f.F.settle.all=f.F.all:=by simp[Fl.settle,Fl.all]
 refine FUpd.set (List.mem_cons_self ..) ⟨?_,?_,?_,fun hb=> ?_⟩ rfl fun y hy=> ?_
 ·show AH.at _ f.j=_
  rw[VS h.c rfl,hs]
  rfl
 ·rw[hs]
  refine JeF h.b fun r hr e=> ?_
  have:=h.b
  rw[hr,←e] at this
  have h2:=h.c
  rw[show AH.at H f.j=_ from this] at h2
  cases h2
 ·rfl
 ·rw[hs];exact⟨(h.n hb).1,rfl⟩
 ·simp only[Fs.objs,List.mem_cons,List.mem_append,Option.mem_toList,Option.toList_none,List.not_mem_nil,or_false] at hy ⊢
  rcases hy with rfl|hy
  ·exact .inl rfl
  ·exact .inr (.inl hy)
theorem JeN {H:AH} {f:Fs} (h:f.At H) {r:Nat} (hr:f.b=some r) {qs rs:List (List Int)} {p:List Int} (hp:f.F.ps=qs++p::rs) (c:Nat) (hc:c≤p.length):
  FUpd H (AH.clr H (.slc r 1 (f.F.s.length+qs.flatten.length+c) (p.length-c)) [.int .u8 0]) f ⟨f.j,f.b,f.e,⟨f.F.s,qs++(p.take c++List.replicate (p.length-c) 0)::rs⟩⟩:=by
 have hb:=h.b
 rw[hr] at hb
 have hb:AH.at H r= .row 5 1 (f.F.all.map (.int .u8)):=hb
 rw[Jlj hb]
 have ha:f.F.all=f.F.s++(qs.flatten++(p++rs.flatten)):=by simp[Fl.all,hp]
 have hx:f.F.all.take (f.F.s.length+qs.flatten.length+c)++(List.replicate (p.length-c) 0++f.F.all.drop (f.F.s.length+qs.flatten.length+c+(p.length-c)))=(⟨f.F.s,qs++(p.take c++List.replicate (p.length-c) 0)::rs⟩:Fl).all:=by
  rw[show f.F.s.length+qs.flatten.length+c+(p.length-c)=f.F.s.length+qs.flatten.length+p.length by omega,ha]
  simp only[Fl.all,List.flatten_append,List.flatten_cons,←List.append_assoc]
  rw[List.take_append_of_le_length (by simp;omega),show f.F.s.length+qs.flatten.length+c=(f.F.s++qs.flatten).length+c by simp,List.take_length_add_append,
   show f.F.s.length+qs.flatten.length+p.length=(f.F.s++qs.flatten++p).length by simp[Nat.add_assoc],List.drop_left]
 rw[hx]
 have hlen:(⟨f.F.s,qs++(p.take c++List.replicate (p.length-c) 0)::rs⟩:Fl).all.length=f.F.all.length:=by
  simp[Fl.all,hp,Nat.min_eq_left hc];omega
 have hends:Wz f.F.s.length (qs++(p.take c++List.replicate (p.length-c) 0)::rs)=Wz f.F.s.length f.F.ps:=by
  refine JeB _ ?_
  rw[hp];simp[Nat.min_eq_left hc];omega
 refine FUpd.set (by simp[Fs.objs,hr]) ⟨?_,?_,?_,fun hn=> ?_⟩ rfl fun y hy=>hy
 ·show AH.at _ f.j=_
  rw[hlen,Vg]
  ·rw[h.c,hp];simp
  ·rintro rfl
   rw[h.c] at hb;cases hb
 ·rw[hr];exact VS hb rfl
 ·rw[hends]
  refine JeF h.e fun x hx e=> ?_
  have:=h.e
  rw[hx,←e] at this
  rw[show AH.at H r=_ from this] at hb;cases hb
 ·rw[hr] at hn;cases hn
theorem JaP {x:Int} (h1: -9223372036854775808≤x) (h2:x<9223372036854775808):IntKind.i64.wrap x=x:=by
 simp[IntKind.wrap,IntKind.bits,IntKind.signed]
 split<;>omega
end Go.Dk
/- The loops of a crash: what is not safe of one file; all files. (Printed by mkDkC.py.) -/
namespace Go.Dk
open Go Go.Gw Go.Proofs.Se.D
set_option linter.unusedSimpArgs false
set_option linter.unusedVariables false
theorem Jfe (n:Nat) (qs rs:List (List Int)) (p:List Int):(Wz n (qs++p::rs)).getD qs.length 0=((n+qs.flatten.length+p.length:Nat):Int):=by
 rw[JcS]
 have:(Wz n qs).length=qs.length:=Wo n qs
 rw[List.getD_eq_getElem?_getD,List.getElem?_append_right (by omega),this,Nat.sub_self]
 rfl
theorem Jew (n:Nat) (qs rs:List (List Int)) (p:List Int):((Wz n (qs++p::rs)).map (MV.int .i64)).getD qs.length .nilp= .int .i64 ((n+qs.flatten.length+p.length:Nat):Int):=by
 have h:=Jfe n qs rs p
 have hl:qs.length<(Wz n (qs++p::rs)).length:=by rw[Wo];simp
 rw[List.getD_eq_getElem?_getD,List.getElem?_eq_getElem hl] at h
 rw[List.getD_eq_getElem?_getD,List.getElem?_map,List.getElem?_eq_getElem hl]
 simp only[Option.getD_some,Option.map_some] at h ⊢
 rw[h]
theorem Ja7 (i sz lo n:Nat):(MV.slc i sz lo n).len=n:=rfl
theorem JcQ (at_:Int) (n:Nat):(if(n:Int)<(if(0:Int)>at_ then(0:Int) else at_) then(n:Int) else(if(0:Int)>at_ then(0:Int) else at_))=((min at_.toNat n:Nat):Int):=by
 split<;>split at* <;>omega
theorem QH {H:AH} {r:Nat} {l:List MV} {e:Nat} (h:AH.at H r= .row e 1 l) (a n:Nat) (hn:a+n≤l.length):AH.isRow H 1 (.slc r 1 a n)=true:=JfG h a n (by omega)
theorem JmQ {d:MV} {keep:List Bool} {torn at_:Int} {a5:List Int} {H7:AH} {x9:Int} {j n:Nat} {e:Option Nat} 
  (hp:AH.look H7 (AH.rd H7 d 1) (a5.getD x9.toNat 0)= .ptr j 0) (he:AH.rd H7 (.ptr j 0) 2=Jt 1 e n) (hn:n<1000000000000):
  ∀(rs qs:List (List Int)) (f:Fs) (H:AH) (k:Nat),f.At H→f.j=j→f.e=e→f.F.ps=qs++rs→n=(qs++rs).length→k+rs.length<1000000000000→ 
  ∃H' f',JJ d keep torn at_ a5 H7 x9 (rs.length+1) H (k:Int) ((f.F.s.length+qs.flatten.length:Nat):Int) (qs.length:Int)=some (H',((k+rs.length:Nat):Int))∧FUpd H H' f f'∧f'.F=⟨f.F.s,qs++Jbx keep torn at_ k rs⟩:=by
 intro rs
 induction rs with
 | nil=>
  intro qs f H k hf hj hfe hps hnl hk 
  have hsl:(Jt 1 e n).len=n:=by
   have:=Xw hf.e (by rw[List.length_map,Wo])
   rw[hps,List.append_nil,hfe] at this
   rw[hnl,List.append_nil];exact this
  refine⟨H,f,?_,FUpd.refl hf,?_⟩
  ·simp only[JJ,List.length_nil,Nat.add_zero,Nat.zero_add,hp,he,hsl]
   rw[if_neg (by simp[hnl])]
  ·obtain⟨_,_,_,s,ps⟩:=f
   simp only[Jbx] at hps ⊢
   rw[hps]
 | cons p rs ih=>
  intro qs f H k hf hj hfe hps hnl hk 
  obtain⟨r,hr⟩:∃r,f.b=some r:=by
   cases hb:f.b with
   |none=>have:=(hf.n hb).2;rw[hps] at this;simp at this
   |some r=>exact⟨r,rfl⟩
  have hnq:qs.length<n:=by rw[hnl];simp
  have hel:((Wz f.F.s.length f.F.ps).map (MV.int .i64)).length=f.F.ps.length:=by rw[List.length_map,Wo]
  have hpl:f.F.ps.length=n:=by rw[hps,hnl]
  have hsl:(Jt 1 e n).len=n:=by rw[←hfe,←hpl];exact Xw hf.e hel
  have hrow:AH.isRow H 1 (Jt 1 e n)=true:=by rw[←hfe,←hpl];exact WI hf.e (by omega)
  have hok:AH.ok H (Jt 1 e n) (qs.length*1+0) 1=true:=by rw[←hfe,←hpl];exact JfI hf.e (by omega) _ _ (by omega) (by decide)
  have hrd:AH.rd H (Jt 1 e n) (qs.length*1+0)= .int .i64 ((f.F.s.length+qs.flatten.length+p.length:Nat):Int):=by
   rw[←hfe,←hpl,JiM hf.e _ (by omega),Nat.mul_one,Nat.add_zero,hps];exact Jew _ _ _ _
  have hbl:f.F.all.length=f.F.s.length+qs.flatten.length+p.length+rs.flatten.length:=by simp[Fl.all,hps];omega
  have hb:=hf.b
  rw[hr] at hb
  have hb:AH.at H r= .row 5 1 (f.F.all.map (.int .u8)):=hb
  have hc0:AH.rd H (.ptr j 0) 0= .slc r 1 0 f.F.all.length:=by rw[←hj,rdC hf.c,hr];rfl
  have hok0:AH.ok H (.ptr j 0) 0 1=true:=by rw[←hj,okC hf.c];rfl
  have hr0:AH.isRow H 1 (.slc r 1 0 f.F.all.length)=true:=QH hb _ _ (by simp)
  have hr1:∀c,c≤p.length→AH.isRow H 1 (.slc r 1 (f.F.s.length+qs.flatten.length+c) (p.length-c))=true:=fun c hc=>QH hb _ _ (by simp only[List.length_map];omega)
  have hsub:f.F.s.length+qs.flatten.length+p.length- (f.F.s.length+qs.flatten.length)=p.length:=by omega
  have key:∃c,c≤p.length∧Qh keep torn at_ k p=p.take c++List.replicate (p.length-c) 0∧
    ∀(P:Option AH→Prop),(c=p.length→P (some H))→P (some (AH.clr H (.slc r 1 (f.F.s.length+qs.flatten.length+c) (p.length-c)) [.int .u8 0]))→P (
     if((k:Int)==torn)=true then if AH.isRow H 1 (MV.sub (.slc r 1 0 f.F.all.length) (f.F.s.length+qs.flatten.length) (f.F.s.length+qs.flatten.length+p.length))=true then if 0≤(if(↑(MV.len (MV.sub (.slc r 1 0 f.F.all.length) (f.F.s.length+qs.flatten.length) (f.F.s.length+qs.flatten.length+p.length))):Int)<(if(0:Int)>at_ then(0:Int) else at_) then(↑(MV.len (MV.sub (.slc r 1 0 f.F.all.length) (f.F.s.length+qs.flatten.length) (f.F.s.length+qs.flatten.length+p.length))):Int) else(if(0:Int)>at_ then(0:Int) else at_))∧(if(↑(MV.len (MV.sub (.slc r 1 0 f.F.all.length) (f.F.s.length+qs.flatten.length) (f.F.s.length+qs.flatten.length+p.length))):Int)<(if(0:Int)>at_ then(0:Int) else at_) then(↑(MV.len (MV.sub (.slc r 1 0 f.F.all.length) (f.F.s.length+qs.flatten.length) (f.F.s.length+qs.flatten.length+p.length))):Int) else(if(0:Int)>at_ then(0:Int) else at_))≤(↑(MV.len (MV.sub (.slc r 1 0 f.F.all.length) (f.F.s.length+qs.flatten.length) (f.F.s.length+qs.flatten.length+p.length))):Int)∧(↑(MV.len (MV.sub (.slc r 1 0 f.F.all.length) (f.F.s.length+qs.flatten.length) (f.F.s.length+qs.flatten.length+p.length))):Int)≤(↑(MV.len (MV.sub (.slc r 1 0 f.F.all.length) (f.F.s.length+qs.flatten.length) (f.F.s.length+qs.flatten.length+p.length))):Int) then if AH.isRow H 1 (MV.sub (MV.sub (.slc r 1 0 f.F.all.length) (f.F.s.length+qs.flatten.length) (f.F.s.length+qs.flatten.length+p.length)) (if(↑(MV.len (MV.sub (.slc r 1 0 f.F.all.length) (f.F.s.length+qs.flatten.length) (f.F.s.length+qs.flatten.length+p.length))):Int)<(if(0:Int)>at_ then(0:Int) else at_) then(↑(MV.len (MV.sub (.slc r 1 0 f.F.all.length) (f.F.s.length+qs.flatten.length) (f.F.s.length+qs.flatten.length+p.length))):Int) else(if(0:Int)>at_ then(0:Int) else at_)).toNat (MV.len (MV.sub (.slc r 1 0 f.F.all.length) (f.F.s.length+qs.flatten.length) (f.F.s.length+qs.flatten.length+p.length))))=true then some (AH.clr H (MV.sub (MV.sub (.slc r 1 0 f.F.all.length) (f.F.s.length+qs.flatten.length) (f.F.s.length+qs.flatten.length+p.length)) (if(↑(MV.len (MV.sub (.slc r 1 0 f.F.all.length) (f.F.s.length+qs.flatten.length) (f.F.s.length+qs.flatten.length+p.length))):Int)<(if(0:Int)>at_ then(0:Int) else at_) then(↑(MV.len (MV.sub (.slc r 1 0 f.F.all.length) (f.F.s.length+qs.flatten.length) (f.F.s.length+qs.flatten.length+p.length))):Int) else(if(0:Int)>at_ then(0:Int) else at_)).toNat (MV.len (MV.sub (.slc r 1 0 f.F.all.length) (f.F.s.length+qs.flatten.length) (f.F.s.length+qs.flatten.length+p.length)))) [MV.int .u8 (0:Int)]) else none else none else none else if(decide ((k:Int)≥(↑(List.length keep):Int)))=true then if AH.isRow H 1 (MV.sub (.slc r 1 0 f.F.all.length) (f.F.s.length+qs.flatten.length) (f.F.s.length+qs.flatten.length+p.length))=true then some (AH.clr H (MV.sub (.slc r 1 0 f.F.all.length) (f.F.s.length+qs.flatten.length) (f.F.s.length+qs.flatten.length+p.length)) [MV.int .u8 (0:Int)]) else none else if 0≤(k:Int)∧(k:Int)<↑(List.length keep) then if(!(keep.getD k false))=true then if AH.isRow H 1 (MV.sub (.slc r 1 0 f.F.all.length) (f.F.s.length+qs.flatten.length) (f.F.s.length+qs.flatten.length+p.length))=true then some (AH.clr H (MV.sub (.slc r 1 0 f.F.all.length) (f.F.s.length+qs.flatten.length) (f.F.s.length+qs.flatten.length+p.length)) [MV.int .u8 (0:Int)]) else none else some H else none):=by
   have hr10:=hr1 0 (by omega)
   simp only[Nat.add_zero,Nat.sub_zero] at hr10
   by_cases ht:(k:Int)=torn
   ·refine⟨min at_.toNat p.length,by omega,?_,fun P _ h2=> ?_⟩
    ·simp only[Qh,if_pos ht]
     congr 1
     ·rcases Nat.le_total at_.toNat p.length with h|h
      ·rw[Nat.min_eq_left h]
      ·rw[Nat.min_eq_right h,List.take_of_length_le h,List.take_of_length_le (Nat.le_refl _)]
     ·congr 1;omega
    ·have hr2:=hr1 (min at_.toNat p.length) (by omega)
     have c1:(0:Int)≤((min at_.toNat p.length:Nat):Int)∧((min at_.toNat p.length:Nat):Int)≤(p.length:Int)∧(p.length:Int)≤(p.length:Int):=by omega
     simp only[ht,beq_self_eq_true,if_true,MV.sub,MV.len,Nat.zero_add,hsub,JcQ,hr10,hr2,c1,Int.toNat_natCast,and_self]
     exact h2
   ·have ht':((k:Int)==torn)=false:=by simpa using ht
    by_cases hkp:keep.getD k false=true
    ·have hkl:k<keep.length:=by
      rcases Nat.lt_or_ge k keep.length with h|h
      ·exact h
      ·rw[List.getD_eq_getElem?_getD,List.getElem?_eq_none h] at hkp;cases hkp
     refine⟨p.length,by omega,by simp only[Qh,if_neg ht,if_pos hkp];simp,fun P h1 _=> ?_⟩
     have c1:decide ((k:Int)≥(keep.length:Int))=false:=by simp;omega
     have c2:(0:Int)≤(k:Int)∧(k:Int)<(keep.length:Int):=by omega
     simp only[ht',c1,c2,hkp,and_self,if_true,if_false,Bool.not_true,Bool.false_eq_true];exact h1 rfl
    ·refine⟨0,by omega,by simp only[Qh,if_neg ht,if_neg hkp];simp,fun P _ h2=> ?_⟩
     simp only[Nat.add_zero,Nat.sub_zero] at h2
     have hkf:keep.getD k false=false:=by simpa using hkp
     by_cases hkl:k<keep.length
     ·have c1:decide ((k:Int)≥(keep.length:Int))=false:=by simp;omega
      have c2:(0:Int)≤(k:Int)∧(k:Int)<(keep.length:Int):=by omega
      simp only[ht',c1,c2,hkf,and_self,if_true,if_false,Bool.not_false,Bool.false_eq_true,MV.sub,Ja7,Nat.zero_add,hsub,hr10];exact h2
     ·have c1:decide ((k:Int)≥(keep.length:Int))=true:=by simp;omega
      simp only[ht',c1,if_true,if_false,Bool.false_eq_true,MV.sub,Ja7,Nat.zero_add,hsub,hr10];exact h2
  obtain⟨c,hc,htr,key⟩:=key
  have step:∃H1 f1,FUpd H H1 f f1∧f1.F=⟨f.F.s,qs++Qh keep torn at_ k p::rs⟩∧f1.e=f.e∧JJ d keep torn at_ a5 H7 x9 ((p::rs).length+1) H (k:Int) ((f.F.s.length+qs.flatten.length:Nat):Int) (qs.length:Int)=
    JJ d keep torn at_ a5 H7 x9 (rs.length+1) H1 ((k+1:Nat):Int) ((f.F.s.length+(qs++[Qh keep torn at_ k p]).flatten.length:Nat):Int) ((qs++[Qh keep torn at_ k p]).length:Int):=by
   have a1:decide ((qs.length:Int)<(n:Int))=true:=by simp;omega
   have a2:(0:Int)≤(qs.length:Int)∧(qs.length:Int)<(n:Int):=by omega
   have a3:(0:Int)≤((f.F.s.length+qs.flatten.length:Nat):Int)∧((f.F.s.length+qs.flatten.length:Nat):Int)≤((f.F.s.length+qs.flatten.length+p.length:Nat):Int)∧((f.F.s.length+qs.flatten.length+p.length:Nat):Int)≤(f.F.all.length:Int):=by omega
   have b1:IntKind.i64.wrap ((k:Int)+1)=((k+1:Nat):Int):=by rw[JaP (by omega) (by omega)];omega
   have b2:IntKind.i64.wrap ((qs.length:Int)+1)=((qs++[Qh keep torn at_ k p]).length:Int):=by rw[JaP (by omega) (by omega)];simp
   have b3:((f.F.s.length+qs.flatten.length+p.length:Nat):Int)=((f.F.s.length+(qs++[Qh keep torn at_ k p]).flatten.length:Nat):Int):=by simp[Jdn];omega
   rw[show (p::rs).length+1=(rs.length+1)+1 from rfl,JJ]
   simp only[hp,he,hsl,hrow,Int.toNat_natCast,hok,hrd,a1,a2,a3,hc0,hok0,hr0,MV.isP,MV.isI,kc,MV.num,MV.lo,and_self,if_true,Nat.beq_refl,show (MV.slc r 1 0 f.F.all.length).len=f.F.all.length from rfl,b1,b2]
   refine key (fun M=>∃H1 f1,FUpd H H1 f f1∧f1.F=⟨f.F.s,qs++Qh keep torn at_ k p::rs⟩∧f1.e=f.e∧M.bind (fun H36=>JJ d keep torn at_ a5 H7 x9 (rs.length+1) H36 ((k+1:Nat):Int) ((f.F.s.length+qs.flatten.length+p.length:Nat):Int) ((qs++[Qh keep torn at_ k p]).length:Int))=JJ d keep torn at_ a5 H7 x9 (rs.length+1) H1 ((k+1:Nat):Int) ((f.F.s.length+(qs++[Qh keep torn at_ k p]).flatten.length:Nat):Int) ((qs++[Qh keep torn at_ k p]).length:Int)) ?_ ?_
   ·intro hcp
    have hpt:Qh keep torn at_ k p=p:=by rw[htr,hcp];simp
    refine⟨H,f,FUpd.refl hf,?_,rfl,?_⟩
    ·rw[hpt,←hps]
    ·rw[b3];rfl
   ·refine⟨_,_,JeN hf hr hps c hc,?_,rfl,?_⟩
    ·rw[htr]
    ·rw[b3];rfl
  obtain⟨H1,f1,u1,hF,hfe1,heq⟩:=step
  have hps1:f1.F.ps=(qs++[Qh keep torn at_ k p])++rs:=by rw[hF];simp
  obtain⟨H2,f2,g1,g2,g3⟩:=ih (qs++[Qh keep torn at_ k p]) f1 H1 (k+1) u1.at' (u1.j.trans hj) (hfe1.trans hfe) hps1 (by rw[hnl];simp) (by simp only[List.length_cons] at hk;omega) 
  refine⟨H2,f2,?_,u1.trans g2,?_⟩
  ·rw[heq]
   rw[hF] at g1
   rw[g1]
   simp only[List.length_cons]
   congr 3
   omega
  ·rw[g3,hF];simp[Jbx]
theorem JdF {H:AH} {x:Option Nat} {keep:List Bool} (h:Xh H 4 1 x (keep.map .bool)):
  AH.isRow H 1 (Jt 1 x keep.length)=true∧(Jt 1 x keep.length).len=keep.length∧(∀k,k<keep.length→AH.ok H (Jt 1 x keep.length) (k*1+0) 1=true)∧(∀k,k<keep.length→AH.rd H (Jt 1 x keep.length) (k*1+0)= .bool (keep.getD k false)):=by
 have hl:(keep.map MV.bool).length=keep.length:=by simp
 refine⟨WI h (by simp),Xw h hl,fun k hk=>JfI h (by simp) _ _ (by simp;omega) (by decide),fun k hk=> ?_⟩
 rw[JiM h _ (by simp;omega),Nat.mul_one,Nat.add_zero,List.getD_eq_getElem?_getD,List.getD_eq_getElem?_getD,List.getElem?_map,List.getElem?_eq_getElem hk]
 rfl
theorem Jip {H H':AH} {f f':Fs} (hf:f.At H) (u:FUpd H H' f f') {x:Option Nat} {keep:List Bool} (h:Xh H 4 1 x (keep.map .bool)):Xh H' 4 1 x (keep.map .bool):=by
 cases x with
 |none=>exact h
 |some r=>
  refine u.keep r _ h rfl fun hm=> ?_
  have h:AH.at H r=_:=h
  rcases hf.kind hm with⟨l,q⟩|⟨l,q⟩|⟨l,q⟩<;>(rw [h] at q;cases q)
theorem Jlu {d:MV} {keep:List Bool} {torn at_:Int} {a5:List Int} {H7:AH} {x9:Int} {j n:Nat} {e:Option Nat} {x:Option Nat}
  (hp:AH.look H7 (AH.rd H7 d 1) (a5.getD x9.toNat 0)= .ptr j 0) (he:AH.rd H7 (.ptr j 0) 2=Jt 1 e n) (hn:n<1000000000000):
  ∀(rs qs:List (List Int)) (f:Fs) (H:AH) (k:Nat),f.At H→f.j=j→f.e=e→f.F.ps=qs++rs→n=(qs++rs).length→k+rs.length<1000000000000→Xh H 4 1 x (keep.map .bool)→ 
  ∃H' f',JA d (Jt 1 x keep.length) torn at_ a5 H7 x9 (rs.length+1) H (k:Int) ((f.F.s.length+qs.flatten.length:Nat):Int) (qs.length:Int)=some (H',((k+rs.length:Nat):Int))∧FUpd H H' f f'∧f'.F=⟨f.F.s,qs++Jbx keep torn at_ k rs⟩:=by
 intro rs
 induction rs with
 | nil=>
  intro qs f H k hf hj hfe hps hnl hk hv
  have hsl:(Jt 1 e n).len=n:=by
   have:=Xw hf.e (by rw[List.length_map,Wo])
   rw[hps,List.append_nil,hfe] at this
   rw[hnl,List.append_nil];exact this
  refine⟨H,f,?_,FUpd.refl hf,?_⟩
  ·simp only[JA,List.length_nil,Nat.add_zero,Nat.zero_add,hp,he,hsl]
   rw[if_neg (by simp[hnl])]
  ·obtain⟨_,_,_,s,ps⟩:=f
   simp only[Jbx] at hps ⊢
   rw[hps]
 | cons p rs ih=>
  intro qs f H k hf hj hfe hps hnl hk hv
  obtain⟨r,hr⟩:∃r,f.b=some r:=by
   cases hb:f.b with
   |none=>have:=(hf.n hb).2;rw[hps] at this;simp at this
   |some r=>exact⟨r,rfl⟩
  have hnq:qs.length<n:=by rw[hnl];simp
  have hel:((Wz f.F.s.length f.F.ps).map (MV.int .i64)).length=f.F.ps.length:=by rw[List.length_map,Wo]
  have hpl:f.F.ps.length=n:=by rw[hps,hnl]
  have hsl:(Jt 1 e n).len=n:=by rw[←hfe,←hpl];exact Xw hf.e hel
  have hrow:AH.isRow H 1 (Jt 1 e n)=true:=by rw[←hfe,←hpl];exact WI hf.e (by omega)
  have hok:AH.ok H (Jt 1 e n) (qs.length*1+0) 1=true:=by rw[←hfe,←hpl];exact JfI hf.e (by omega) _ _ (by omega) (by decide)
  have hrd:AH.rd H (Jt 1 e n) (qs.length*1+0)= .int .i64 ((f.F.s.length+qs.flatten.length+p.length:Nat):Int):=by
   rw[←hfe,←hpl,JiM hf.e _ (by omega),Nat.mul_one,Nat.add_zero,hps];exact Jew _ _ _ _
  have hbl:f.F.all.length=f.F.s.length+qs.flatten.length+p.length+rs.flatten.length:=by simp[Fl.all,hps];omega
  have hb:=hf.b
  rw[hr] at hb
  have hb:AH.at H r= .row 5 1 (f.F.all.map (.int .u8)):=hb
  have hc0:AH.rd H (.ptr j 0) 0= .slc r 1 0 f.F.all.length:=by rw[←hj,rdC hf.c,hr];rfl
  have hok0:AH.ok H (.ptr j 0) 0 1=true:=by rw[←hj,okC hf.c];rfl
  have hr0:AH.isRow H 1 (.slc r 1 0 f.F.all.length)=true:=QH hb _ _ (by simp)
  have hr1:∀c,c≤p.length→AH.isRow H 1 (.slc r 1 (f.F.s.length+qs.flatten.length+c) (p.length-c))=true:=fun c hc=>QH hb _ _ (by simp only[List.length_map];omega)
  have hsub:f.F.s.length+qs.flatten.length+p.length- (f.F.s.length+qs.flatten.length)=p.length:=by omega
  have key:∃c,c≤p.length∧Qh keep torn at_ k p=p.take c++List.replicate (p.length-c) 0∧
    ∀(P:Option AH→Prop),(c=p.length→P (some H))→P (some (AH.clr H (.slc r 1 (f.F.s.length+qs.flatten.length+c) (p.length-c)) [.int .u8 0]))→P (
     if((k:Int)==torn)=true then if AH.isRow H 1 (MV.sub (.slc r 1 0 f.F.all.length) (f.F.s.length+qs.flatten.length) (f.F.s.length+qs.flatten.length+p.length))=true then if 0≤(if(↑(MV.len (MV.sub (.slc r 1 0 f.F.all.length) (f.F.s.length+qs.flatten.length) (f.F.s.length+qs.flatten.length+p.length))):Int)<(if(0:Int)>at_ then(0:Int) else at_) then(↑(MV.len (MV.sub (.slc r 1 0 f.F.all.length) (f.F.s.length+qs.flatten.length) (f.F.s.length+qs.flatten.length+p.length))):Int) else(if(0:Int)>at_ then(0:Int) else at_))∧(if(↑(MV.len (MV.sub (.slc r 1 0 f.F.all.length) (f.F.s.length+qs.flatten.length) (f.F.s.length+qs.flatten.length+p.length))):Int)<(if(0:Int)>at_ then(0:Int) else at_) then(↑(MV.len (MV.sub (.slc r 1 0 f.F.all.length) (f.F.s.length+qs.flatten.length) (f.F.s.length+qs.flatten.length+p.length))):Int) else(if(0:Int)>at_ then(0:Int) else at_))≤(↑(MV.len (MV.sub (.slc r 1 0 f.F.all.length) (f.F.s.length+qs.flatten.length) (f.F.s.length+qs.flatten.length+p.length))):Int)∧(↑(MV.len (MV.sub (.slc r 1 0 f.F.all.length) (f.F.s.length+qs.flatten.length) (f.F.s.length+qs.flatten.length+p.length))):Int)≤(↑(MV.len (MV.sub (.slc r 1 0 f.F.all.length) (f.F.s.length+qs.flatten.length) (f.F.s.length+qs.flatten.length+p.length))):Int) then if AH.isRow H 1 (MV.sub (MV.sub (.slc r 1 0 f.F.all.length) (f.F.s.length+qs.flatten.length) (f.F.s.length+qs.flatten.length+p.length)) (if(↑(MV.len (MV.sub (.slc r 1 0 f.F.all.length) (f.F.s.length+qs.flatten.length) (f.F.s.length+qs.flatten.length+p.length))):Int)<(if(0:Int)>at_ then(0:Int) else at_) then(↑(MV.len (MV.sub (.slc r 1 0 f.F.all.length) (f.F.s.length+qs.flatten.length) (f.F.s.length+qs.flatten.length+p.length))):Int) else(if(0:Int)>at_ then(0:Int) else at_)).toNat (MV.len (MV.sub (.slc r 1 0 f.F.all.length) (f.F.s.length+qs.flatten.length) (f.F.s.length+qs.flatten.length+p.length))))=true then some (AH.clr H (MV.sub (MV.sub (.slc r 1 0 f.F.all.length) (f.F.s.length+qs.flatten.length) (f.F.s.length+qs.flatten.length+p.length)) (if(↑(MV.len (MV.sub (.slc r 1 0 f.F.all.length) (f.F.s.length+qs.flatten.length) (f.F.s.length+qs.flatten.length+p.length))):Int)<(if(0:Int)>at_ then(0:Int) else at_) then(↑(MV.len (MV.sub (.slc r 1 0 f.F.all.length) (f.F.s.length+qs.flatten.length) (f.F.s.length+qs.flatten.length+p.length))):Int) else(if(0:Int)>at_ then(0:Int) else at_)).toNat (MV.len (MV.sub (.slc r 1 0 f.F.all.length) (f.F.s.length+qs.flatten.length) (f.F.s.length+qs.flatten.length+p.length)))) [MV.int .u8 (0:Int)]) else none else none else none else if AH.isRow H 1 (Jt 1 x keep.length)=true then if(decide ((k:Int)≥(↑(MV.len (Jt 1 x keep.length)):Int)))=true then if AH.isRow H 1 (MV.sub (.slc r 1 0 f.F.all.length) (f.F.s.length+qs.flatten.length) (f.F.s.length+qs.flatten.length+p.length))=true then some (AH.clr H (MV.sub (.slc r 1 0 f.F.all.length) (f.F.s.length+qs.flatten.length) (f.F.s.length+qs.flatten.length+p.length)) [MV.int .u8 (0:Int)]) else none else if(0≤(k:Int)∧(k:Int)<(↑(MV.len (Jt 1 x keep.length)):Int))∧AH.isRow H 1 (Jt 1 x keep.length)=true then if AH.ok H (Jt 1 x keep.length) (k*1+0) 1=true then if MV.isB (AH.rd H (Jt 1 x keep.length) (k*1+0))=true then if(!(MV.tr (AH.rd H (Jt 1 x keep.length) (k*1+0))))=true then if AH.isRow H 1 (MV.sub (.slc r 1 0 f.F.all.length) (f.F.s.length+qs.flatten.length) (f.F.s.length+qs.flatten.length+p.length))=true then some (AH.clr H (MV.sub (.slc r 1 0 f.F.all.length) (f.F.s.length+qs.flatten.length) (f.F.s.length+qs.flatten.length+p.length)) [MV.int .u8 (0:Int)]) else none else some H else none else none else none else none):=by
   have hr10:=hr1 0 (by omega)
   simp only[Nat.add_zero,Nat.sub_zero] at hr10
   by_cases ht:(k:Int)=torn
   ·refine⟨min at_.toNat p.length,by omega,?_,fun P _ h2=> ?_⟩
    ·simp only[Qh,if_pos ht]
     congr 1
     ·rcases Nat.le_total at_.toNat p.length with h|h
      ·rw[Nat.min_eq_left h]
      ·rw[Nat.min_eq_right h,List.take_of_length_le h,List.take_of_length_le (Nat.le_refl _)]
     ·congr 1;omega
    ·have hr2:=hr1 (min at_.toNat p.length) (by omega)
     have c1:(0:Int)≤((min at_.toNat p.length:Nat):Int)∧((min at_.toNat p.length:Nat):Int)≤(p.length:Int)∧(p.length:Int)≤(p.length:Int):=by omega
     simp only[ht,beq_self_eq_true,if_true,MV.sub,MV.len,Nat.zero_add,hsub,JcQ,hr10,hr2,c1,Int.toNat_natCast,and_self]
     exact h2
   ·have ht':((k:Int)==torn)=false:=by simpa using ht
    by_cases hkp:keep.getD k false=true
    ·have hkl:k<keep.length:=by
      rcases Nat.lt_or_ge k keep.length with h|h
      ·exact h
      ·rw[List.getD_eq_getElem?_getD,List.getElem?_eq_none h] at hkp;cases hkp
     refine⟨p.length,by omega,by simp only[Qh,if_neg ht,if_pos hkp];simp,fun P h1 _=> ?_⟩
     have c1:decide ((k:Int)≥(keep.length:Int))=false:=by simp;omega
     have c2:(0:Int)≤(k:Int)∧(k:Int)<(keep.length:Int):=by omega
     obtain⟨v1,v2,v3,v4⟩:=JdF hv
     simp only[ht',v1,v2,v3 k hkl,v4 k hkl,c1,c2,hkp,and_self,if_true,if_false,Bool.not_true,Bool.false_eq_true,MV.isB,MV.tr];exact h1 rfl
    ·refine⟨0,by omega,by simp only[Qh,if_neg ht,if_neg hkp];simp,fun P _ h2=> ?_⟩
     simp only[Nat.add_zero,Nat.sub_zero] at h2
     have hkf:keep.getD k false=false:=by simpa using hkp
     by_cases hkl:k<keep.length
     ·have c1:decide ((k:Int)≥(keep.length:Int))=false:=by simp;omega
      have c2:(0:Int)≤(k:Int)∧(k:Int)<(keep.length:Int):=by omega
      obtain⟨v1,v2,v3,v4⟩:=JdF hv
      simp only[ht',v1,v2,v3 k hkl,v4 k hkl,c1,c2,hkf,and_self,if_true,if_false,Bool.not_false,Bool.false_eq_true,MV.isB,MV.tr,MV.sub,Ja7,Nat.zero_add,hsub,hr10];exact h2
     ·have c1:decide ((k:Int)≥(keep.length:Int))=true:=by simp;omega
      obtain⟨v1,v2,v3,v4⟩:=JdF hv
      simp only[ht',v1,v2,c1,if_true,if_false,Bool.false_eq_true,MV.sub,Ja7,Nat.zero_add,hsub,hr10];exact h2
  obtain⟨c,hc,htr,key⟩:=key
  have step:∃H1 f1,FUpd H H1 f f1∧f1.F=⟨f.F.s,qs++Qh keep torn at_ k p::rs⟩∧f1.e=f.e∧JA d (Jt 1 x keep.length) torn at_ a5 H7 x9 ((p::rs).length+1) H (k:Int) ((f.F.s.length+qs.flatten.length:Nat):Int) (qs.length:Int)=
    JA d (Jt 1 x keep.length) torn at_ a5 H7 x9 (rs.length+1) H1 ((k+1:Nat):Int) ((f.F.s.length+(qs++[Qh keep torn at_ k p]).flatten.length:Nat):Int) ((qs++[Qh keep torn at_ k p]).length:Int):=by
   have a1:decide ((qs.length:Int)<(n:Int))=true:=by simp;omega
   have a2:(0:Int)≤(qs.length:Int)∧(qs.length:Int)<(n:Int):=by omega
   have a3:(0:Int)≤((f.F.s.length+qs.flatten.length:Nat):Int)∧((f.F.s.length+qs.flatten.length:Nat):Int)≤((f.F.s.length+qs.flatten.length+p.length:Nat):Int)∧((f.F.s.length+qs.flatten.length+p.length:Nat):Int)≤(f.F.all.length:Int):=by omega
   have b1:IntKind.i64.wrap ((k:Int)+1)=((k+1:Nat):Int):=by rw[JaP (by omega) (by omega)];omega
   have b2:IntKind.i64.wrap ((qs.length:Int)+1)=((qs++[Qh keep torn at_ k p]).length:Int):=by rw[JaP (by omega) (by omega)];simp
   have b3:((f.F.s.length+qs.flatten.length+p.length:Nat):Int)=((f.F.s.length+(qs++[Qh keep torn at_ k p]).flatten.length:Nat):Int):=by simp[Jdn];omega
   rw[show (p::rs).length+1=(rs.length+1)+1 from rfl,JA]
   simp only[hp,he,hsl,hrow,Int.toNat_natCast,hok,hrd,a1,a2,a3,hc0,hok0,hr0,MV.isP,MV.isI,kc,MV.num,MV.lo,and_self,if_true,Nat.beq_refl,show (MV.slc r 1 0 f.F.all.length).len=f.F.all.length from rfl,b1,b2]
   refine key (fun M=>∃H1 f1,FUpd H H1 f f1∧f1.F=⟨f.F.s,qs++Qh keep torn at_ k p::rs⟩∧f1.e=f.e∧M.bind (fun H36=>JA d (Jt 1 x keep.length) torn at_ a5 H7 x9 (rs.length+1) H36 ((k+1:Nat):Int) ((f.F.s.length+qs.flatten.length+p.length:Nat):Int) ((qs++[Qh keep torn at_ k p]).length:Int))=JA d (Jt 1 x keep.length) torn at_ a5 H7 x9 (rs.length+1) H1 ((k+1:Nat):Int) ((f.F.s.length+(qs++[Qh keep torn at_ k p]).flatten.length:Nat):Int) ((qs++[Qh keep torn at_ k p]).length:Int)) ?_ ?_
   ·intro hcp
    have hpt:Qh keep torn at_ k p=p:=by rw[htr,hcp];simp
    refine⟨H,f,FUpd.refl hf,?_,rfl,?_⟩
    ·rw[hpt,←hps]
    ·rw[b3];rfl
   ·refine⟨_,_,JeN hf hr hps c hc,?_,rfl,?_⟩
    ·rw[htr]
    ·rw[b3];rfl
  obtain⟨H1,f1,u1,hF,hfe1,heq⟩:=step
  have hps1:f1.F.ps=(qs++[Qh keep torn at_ k p])++rs:=by rw[hF];simp
  obtain⟨H2,f2,g1,g2,g3⟩:=ih (qs++[Qh keep torn at_ k p]) f1 H1 (k+1) u1.at' (u1.j.trans hj) (hfe1.trans hfe) hps1 (by rw[hnl];simp) (by simp only[List.length_cons] at hk;omega) (Jip hf u1 hv)
  refine⟨H2,f2,?_,u1.trans g2,?_⟩
  ·rw[heq]
   rw[hF] at g1
   rw[g1]
   simp only[List.length_cons]
   congr 3
   omega
  ·rw[g3,hF];simp[Jbx]
def Kp (H H':AH):Prop:=∀x o,AH.at H x=o→o.live=true→(∀l,o≠ .cells 98 l)→(∀l,o≠ .row 5 1 l)→(∀l,o≠ .row 3 1 l)→AH.at H' x=o
theorem Kp.refl (H:AH):Kp H H:=fun _ _ h _ _ _ _=>h
theorem Kp.trans {H H' H'':AH} (h:Kp H H') (g:Kp H' H''):Kp H H'':=fun x o a b c d e=>g x o (h x o a b c d e) b c d e
theorem FUpd.kp {H H':AH} {f f':Fs} (hf:f.At H) (u:FUpd H H' f f'):Kp H H':=fun x o h hl h1 h2 h3=>u.keep x o h hl fun hm=>by
 rcases hf.kind hm with⟨l,q⟩|⟨l,q⟩|⟨l,q⟩
 ·exact h1 l (h.symm.trans q)
 ·exact h2 l (h.symm.trans q)
 ·exact h3 l (h.symm.trans q)
theorem Kp.row4 {H H':AH} (h:Kp H H') {x:Option Nat} {l:List MV} (hx:Xh H 4 1 x l):Xh H' 4 1 x l:=by
 cases x with
 |none=>exact hx
 |some r=>exact h r _ hx rfl (fun _=>by simp) (fun _=>by simp) (fun _=>by simp)
structure DiskIn (H:AH) (i m:Nat) (L:List (Int×Fs)) (lim:Int) (off:Bool) (life:Int) (a:MV):Prop where
 d:AH.at H i= .cells 73 [.int .i64 lim,.map m,.bool off,.int .i64 life,a]
 m:AH.at H m= .map (L.map fun p=>(p.1,.ptr p.2.j 0))
 f:∀p∈L,p.2.At H
 nd:(L.map (·.1)).Nodup
 ap:∀p∈L,∀q∈L,p.1≠q.1→∀x∈p.2.objs,x∉q.2.objs
def XN {α:Type} (L:List (Int×α)) (n:Int) (f:α):List (Int×α):=L.map fun p=>if p.1=n then(n,f) else p
theorem Qw {α:Type} (L:List (Int×α)) (n:Int) (f:α):(XN L n f).map (·.1)=L.map (·.1):=by
 simp only[XN,List.map_map]
 refine List.map_congr_left fun p _=> ?_
 simp only[Function.comp_apply];split<;>simp_all
theorem QD {α:Type} {L:List (Int×α)} {n:Int} {f:α} {p:Int×α} (h:p∈XN L n f):p=(n,f)∨(p∈L∧p.1≠n):=by
 simp only[XN,List.mem_map] at h
 obtain⟨q,hq,rfl⟩:=h
 split
 ·exact .inl rfl
 ·exact .inr ⟨hq,by assumption⟩
theorem XM {α:Type} {L:List (Int×α)} (h:(L.map (·.1)).Nodup) {p q:Int×α} (hp:p∈L) (hq:q∈L) (e:p.1=q.1):p=q:=by
 induction L with
 |nil=>cases hp
 | cons a L ih=>
  simp only[List.map_cons,List.nodup_cons] at h
  rcases List.mem_cons.1 hp with rfl|hp'
  ·rcases List.mem_cons.1 hq with rfl|hq'
   ·rfl
   ·exact absurd (List.mem_map.2 ⟨q,hq',e.symm⟩) h.1
  ·rcases List.mem_cons.1 hq with rfl|hq'
   ·exact absurd (List.mem_map.2 ⟨p,hp',e⟩) h.1
   ·exact ih h.2 hp' hq'
theorem JfB {α β:Type} (L:List (Int×α)) (n:Int) (f:α) (g:α→β):(XN L n f).map (fun p=>(p.1,g p.2))=XN (L.map fun p=>(p.1,g p.2)) n (g f):=by
 simp only[XN,List.map_map]
 refine List.map_congr_left fun p _=> ?_
 simp only[Function.comp_apply];split<;>simp_all
theorem JiE {α:Type} {L:List (Int×α)} (h:(L.map (·.1)).Nodup) {n:Int} {f:α} (hp:(n,f)∈L):XN L n f=L:=by
 refine(List.map_congr_left fun p h'=> ?_).trans (List.map_id L)
 split
 ·exact(XM h h' hp (by assumption)).symm
 ·rfl
theorem DiskIn.upd {H H':AH} {i m:Nat} {L:List (Int×Fs)} {lim life:Int} {off:Bool} {a:MV} (h:DiskIn H i m L lim off life a) {n:Int} {f f':Fs} (hm:(n,f)∈L) (u:FUpd H H' f f'):
  DiskIn H' i m (XN L n f') lim off life a∧(XN L n f').map (fun p=>(p.1,p.2.j))=L.map (fun p=>(p.1,p.2.j)):=by
 have hf:=h.f _ hm
 have hk:=u.kp hf
 have hj:(XN L n f').map (fun p=>(p.1,p.2.j))=L.map (fun p=>(p.1,p.2.j)):=by
  rw[JfB L n f' Fs.j,u.j]
  have:(n,f.j)∈L.map (fun p=>(p.1,p.2.j)):=List.mem_map.2 ⟨_,hm,rfl⟩
  exact JiE (by rw[List.map_map];exact h.nd) this
 refine⟨⟨hk _ _ h.d rfl (fun _=>by simp) (fun _=>by simp) (fun _=>by simp),?_,fun p hp=> ?_,by rw[Qw];exact h.nd,fun p hp q hq hne x hx=> ?_⟩,hj⟩
 ·rw[show (XN L n f').map (fun p=>(p.1,MV.ptr p.2.j 0))=L.map (fun p=>(p.1,MV.ptr p.2.j 0)) from by
   have:=congrArg (List.map fun p:Int×Nat=>(p.1,MV.ptr p.2 0)) hj
   simpa only [List.map_map,Function.comp_def] using this]
  exact hk _ _ h.m rfl (fun _=>by simp) (fun _=>by simp) (fun _=>by simp)
 ·rcases QD hp with rfl|⟨hp,hne⟩
  ·exact u.at'
  ·have hd:=h.ap p hp _ hm hne
   have hp':=h.f p hp
   refine⟨u.keep _ _ hp'.c rfl (hd _ (List.mem_cons_self ..)),?_,?_,hp'.n⟩
   ·have:=hp'.b
    cases hb:p.2.b with
    |none=>rw[hb] at this;exact this
    |some r=>rw[hb] at this;exact u.keep r _ this rfl (hd r (by simp[Fs.objs,hb]))
   ·have:=hp'.e
    cases hb:p.2.e with
    |none=>rw[hb] at this;exact this
    |some r=>rw[hb] at this;exact u.keep r _ this rfl (hd r (by simp[Fs.objs,hb]))
 ·have fresh:∀q∈L,∀x∈q.2.objs,x<H.length:=fun q hq x hx=>WN ((h.f q hq).live hx)
  rcases QD hp with rfl|⟨hp,hpn⟩<;>rcases QD hq with rfl|⟨hq,hqn⟩
  ·exact absurd rfl hne
  ·intro hxq
   rcases u.objs x hx with g|g
   ·exact h.ap _ hm q hq hne x g hxq
   ·have:=fresh q hq x hxq;omega
  ·intro hxq
   rcases u.objs x hxq with g|g
   ·exact h.ap p hp _ hm hne x hx g
   ·have:=fresh p hp x hx;omega
  ·exact h.ap p hp q hq hne x hx
theorem Qu {L:List (Int×Fs)} (h:(L.map (·.1)).Nodup) {n:Int} {f:Fs} (hm:(n,f)∈L):QW (L.map fun p=>(p.1,MV.ptr p.2.j 0)) n= .ptr f.j 0:=by
 induction L with
 |nil=>cases hm
 | cons a L ih=>
  simp only[List.map_cons,List.nodup_cons] at h
  simp only[List.map_cons,QW]
  rcases List.mem_cons.1 hm with rfl|hm'
  ·simp
  ·rw[if_neg fun e=>h.1 (by rw[e];exact List.mem_map.2 ⟨_,hm',rfl⟩)]
   exact ih h.2 hm'
theorem JaV {L:List (Int×Fs)} {n:Int} (h:n∉L.map (·.1)):QW (L.map fun p=>(p.1,MV.ptr p.2.j 0)) n= .nilp:=by
 induction L with
 |nil=>rfl
 |cons a L ih=>
  simp only[List.map_cons,List.mem_cons,not_or] at h
  simp only[List.map_cons,QW,if_neg (Ne.symm h.1)]
  exact ih h.2
def Fl.crash (keep:List Bool) (torn at_:Int) (k:Nat) (f:Fl):Fl:=⟨f.s++(Jbx keep torn at_ k f.ps).flatten,[]⟩
def cnt (fs:List (Int×Fl)) (n:Int):Nat:=((fs.filter fun p=>p.1==n).map fun p=>p.2.ps.length).sum
def WG (keep:List Bool) (torn at_:Int):List Int→Nat→List (Int×Fl)→List (Int×Fl)
 |[],_,fs=>fs
 |n::ns,k,fs=>WG keep torn at_ ns (k+cnt fs n) (fs.map fun p=>if p.1=n then(n,p.2.crash keep torn at_ k) else p)
def Ja8 (L:List (Int×Fs)):List (Int×Fl):=L.map fun p=>(p.1,p.2.F)
theorem JhX {L:List (Int×Fs)} (h:(L.map (·.1)).Nodup) {n:Int} {f:Fs} (hm:(n,f)∈L):cnt (Ja8 L) n=f.F.ps.length:=by
 induction L with
 |nil=>cases hm
 | cons a L ih=>
  simp only[List.map_cons,List.nodup_cons] at h
  simp only[Ja8,List.map_cons,cnt,List.filter_cons] at ih ⊢
  rcases List.mem_cons.1 hm with rfl|hm'
  ·simp only[beq_self_eq_true,if_true,List.map_cons,List.sum_cons]
   have:((L.map fun p=>(p.1,p.2.F)).filter fun p=>p.1==n)=[]:=by
    rw[List.filter_eq_nil_iff]
    intro p hp
    obtain⟨q,hq,rfl⟩:=List.mem_map.1 hp
    simp only[beq_iff_eq]
    rintro rfl
    exact h.1 (List.mem_map.2 ⟨q,hq,rfl⟩)
   rw[this];simp
  ·have:(a.1==n)=false:=by
    rw[beq_eq_false_iff_ne]
    rintro e
    exact h.1 (by rw[e];exact List.mem_map.2 ⟨_,hm',rfl⟩)
   simp only[this,Bool.false_eq_true,if_false]
   exact ih h.2 hm'
theorem Jna {d:MV} {keep:List Bool} {torn at_:Int} {a5:List Int} {i m:Nat} {lim life:Int} {off:Bool} {a:MV} (hd:d= .ptr i 0) (ha5:a5.length≤4096):
  ∀(ns done:List Int) (L:List (Int×Fs)) (H:AH) (k:Nat),DiskIn H i m L lim off life a→a5=done++ns→(∀n∈ns,n∈L.map (·.1))→(∀p∈L,p.2.F.ps.length≤1000000)→k≤done.length*1000000→ 
  ∃H' L',Vv d keep torn at_ a5 (ns.length+1) H (k:Int) (done.length:Int)=some H'∧DiskIn H' i m L' lim off life a∧L'.map (fun p=>(p.1,p.2.j))=L.map (fun p=>(p.1,p.2.j))∧Ja8 L'=WG keep torn at_ ns k (Ja8 L)∧Kp H H':=by
 intro ns
 induction ns with
 |nil=>
  intro done L H k hD ha hns hB hk 
  refine⟨H,L,?_,hD,rfl,rfl,Kp.refl H⟩
  rw[List.append_nil] at ha
  simp only[Vv,List.length_nil,Nat.zero_add]
  rw[if_neg (by simp[ha])]
 | cons n ns ih=>
  intro done L H k hD ha hns hB hk 
  obtain⟨⟨n',f⟩,hm,rfl⟩:=List.mem_map.1 (hns n (List.mem_cons_self ..))
  simp only at*
  have hf:=hD.f _ hm
  simp only at hf
  have hlen:done.length<a5.length:=by rw[ha];simp
  have hget:a5.getD (Int.toNat (done.length:Int)) 0=n':=by
   rw[Int.toNat_natCast,ha,List.getD_eq_getElem?_getD,List.getElem?_append_right (Nat.le_refl _),Nat.sub_self];rfl
  have hmap:AH.rd H (.ptr i 0) 1= .map m:=rdC hD.d 1
  have hlook:AH.look H (AH.rd H (.ptr i 0) 1) (a5.getD (Int.toNat (done.length:Int)) 0)= .ptr f.j 0:=by
   rw[hmap,hget,lookM' hD.m,Qu hD.nd hm]
  have he:AH.rd H (.ptr f.j 0) 2=Jt 1 f.e f.F.ps.length:=rdC hf.c 2
  have hs:AH.rd H (.ptr f.j 0) 1= .int .i64 (f.F.s.length:Int):=rdC hf.c 1
  have hel:((Wz f.F.s.length f.F.ps).map (MV.int .i64)).length=f.F.ps.length:=by rw[List.length_map,Wo]
  have hsl:(Jt 1 f.e f.F.ps.length).len=f.F.ps.length:=Xw hf.e hel
  have hrow:AH.isRow H 1 (Jt 1 f.e f.F.ps.length)=true:=WI hf.e (by omega)
  have hB':=hB _ hm
  simp only at hB'
  have hkk:k+f.F.ps.length<1000000000000:=by omega
  subst hd
  obtain⟨H1,f1,g1,g2,g3⟩:= @JmQ (.ptr i 0) keep torn at_ a5 H (done.length:Int) f.j f.F.ps.length f.e  hlook he (by omega) f.F.ps [] f H k hf rfl rfl rfl rfl hkk 
  simp only[List.flatten_nil,List.length_nil,Nat.add_zero,List.nil_append,show ((0:Nat):Int)=0 from rfl] at g1 g3
  obtain⟨H2,f2,s1,s2,s3⟩:=JbX g2.at'
  rw[g2.j] at s1
  have u:=g2.trans s2
  obtain⟨d1,d2⟩:=hD.upd hm u
  have hF:f2.F=f.F.crash keep torn at_ k:=by rw[s3,g3];rfl
  have hkp:=u.kp hf
  have hfl:Ja8 (XN L n' f2)=(Ja8 L).map fun p=>if p.1=n' then(n',p.2.crash keep torn at_ k) else p:=by
   simp only[Ja8,XN,List.map_map]
   refine List.map_congr_left fun p hp=> ?_
   simp only[Function.comp_apply]
   by_cases hpn:p.1=n'
   ·have:=XM hD.nd hp hm hpn
    subst this
    simp only[if_true,hF]
   ·simp only[if_neg hpn]
  obtain⟨H3,L3,t1,t2,t3,t4,t5⟩:=ih (done++[n']) (XN L n' f2) H2 (k+f.F.ps.length) d1 (by rw[ha];simp) (fun x hx=>by rw[Qw];exact hns x (List.mem_cons_of_mem _ hx)) (fun p hp=>by
   rcases QD hp with rfl|⟨hp,_⟩
   ·rw[show (n',f2).2.F=_ from hF];simp[Fl.crash]
   ·exact hB p hp) (by simp only[List.length_append,List.length_cons,List.length_nil];omega) 
  refine⟨H3,L3,?_,t2,t3.trans d2,?_,hkp.trans t5⟩
  ·have a1:decide ((done.length:Int)<(a5.length:Int))=true:=by simp;omega
   have a2:(0:Int)≤(done.length:Int)∧(done.length:Int)<(a5.length:Int):=by omega
   have b1:IntKind.i64.wrap ((done.length:Int)+1)=((done++[n']).length:Int):=by rw[JaP (by omega) (by omega)];simp
   have c1:(((f.F.ps.length:Nat):Int)- 0).toNat+1=f.F.ps.length+1:=by omega
   have isM:AH.isMap H (.map m)=true:=YA hD.m
   rw[show (n'::ns).length+1=(ns.length+1)+1 from rfl,Vv]
   rw[hmap] at hlook
   simp only[a1,a2,decide_true,hmap,isM,hlook,he,hs,hsl,hrow,okC hD.d,okC hf.c,MV.isP,MV.isI,kc,MV.num,Nat.beq_refl,List.length_cons,List.length_nil,Nat.reduceAdd,Nat.reduceLeDiff,Nat.ble_eq,and_self,if_true,c1,g1,Option.bind_some,s1,b1]
   exact t1
  ·rw[t4,WG,JhX hD.nd hm,hfl]
theorem JkI {d:MV} {keep:List Bool} {torn at_:Int} {a5:List Int} {i m:Nat} {lim life:Int} {off:Bool} {a:MV} {x:Option Nat} (hd:d= .ptr i 0) (ha5:a5.length≤4096):
  ∀(ns done:List Int) (L:List (Int×Fs)) (H:AH) (k:Nat),DiskIn H i m L lim off life a→a5=done++ns→(∀n∈ns,n∈L.map (·.1))→(∀p∈L,p.2.F.ps.length≤1000000)→k≤done.length*1000000→Xh H 4 1 x (keep.map .bool)→ 
  ∃H' L',Vc d (Jt 1 x keep.length) torn at_ a5 (ns.length+1) H (k:Int) (done.length:Int)=some H'∧DiskIn H' i m L' lim off life a∧L'.map (fun p=>(p.1,p.2.j))=L.map (fun p=>(p.1,p.2.j))∧Ja8 L'=WG keep torn at_ ns k (Ja8 L)∧Kp H H':=by
 intro ns
 induction ns with
 |nil=>
  intro done L H k hD ha hns hB hk hv
  refine⟨H,L,?_,hD,rfl,rfl,Kp.refl H⟩
  rw[List.append_nil] at ha
  simp only[Vc,List.length_nil,Nat.zero_add]
  rw[if_neg (by simp[ha])]
 | cons n ns ih=>
  intro done L H k hD ha hns hB hk hv
  obtain⟨⟨n',f⟩,hm,rfl⟩:=List.mem_map.1 (hns n (List.mem_cons_self ..))
  simp only at*
  have hf:=hD.f _ hm
  simp only at hf
  have hlen:done.length<a5.length:=by rw[ha];simp
  have hget:a5.getD (Int.toNat (done.length:Int)) 0=n':=by
   rw[Int.toNat_natCast,ha,List.getD_eq_getElem?_getD,List.getElem?_append_right (Nat.le_refl _),Nat.sub_self];rfl
  have hmap:AH.rd H (.ptr i 0) 1= .map m:=rdC hD.d 1
  have hlook:AH.look H (AH.rd H (.ptr i 0) 1) (a5.getD (Int.toNat (done.length:Int)) 0)= .ptr f.j 0:=by
   rw[hmap,hget,lookM' hD.m,Qu hD.nd hm]
  have he:AH.rd H (.ptr f.j 0) 2=Jt 1 f.e f.F.ps.length:=rdC hf.c 2
  have hs:AH.rd H (.ptr f.j 0) 1= .int .i64 (f.F.s.length:Int):=rdC hf.c 1
  have hel:((Wz f.F.s.length f.F.ps).map (MV.int .i64)).length=f.F.ps.length:=by rw[List.length_map,Wo]
  have hsl:(Jt 1 f.e f.F.ps.length).len=f.F.ps.length:=Xw hf.e hel
  have hrow:AH.isRow H 1 (Jt 1 f.e f.F.ps.length)=true:=WI hf.e (by omega)
  have hB':=hB _ hm
  simp only at hB'
  have hkk:k+f.F.ps.length<1000000000000:=by omega
  subst hd
  obtain⟨H1,f1,g1,g2,g3⟩:= @Jlu (.ptr i 0) keep torn at_ a5 H (done.length:Int) f.j f.F.ps.length f.e x hlook he (by omega) f.F.ps [] f H k hf rfl rfl rfl rfl hkk hv
  simp only[List.flatten_nil,List.length_nil,Nat.add_zero,List.nil_append,show ((0:Nat):Int)=0 from rfl] at g1 g3
  obtain⟨H2,f2,s1,s2,s3⟩:=JbX g2.at'
  rw[g2.j] at s1
  have u:=g2.trans s2
  obtain⟨d1,d2⟩:=hD.upd hm u
  have hF:f2.F=f.F.crash keep torn at_ k:=by rw[s3,g3];rfl
  have hkp:=u.kp hf
  have hfl:Ja8 (XN L n' f2)=(Ja8 L).map fun p=>if p.1=n' then(n',p.2.crash keep torn at_ k) else p:=by
   simp only[Ja8,XN,List.map_map]
   refine List.map_congr_left fun p hp=> ?_
   simp only[Function.comp_apply]
   by_cases hpn:p.1=n'
   ·have:=XM hD.nd hp hm hpn
    subst this
    simp only[if_true,hF]
   ·simp only[if_neg hpn]
  obtain⟨H3,L3,t1,t2,t3,t4,t5⟩:=ih (done++[n']) (XN L n' f2) H2 (k+f.F.ps.length) d1 (by rw[ha];simp) (fun x hx=>by rw[Qw];exact hns x (List.mem_cons_of_mem _ hx)) (fun p hp=>by
   rcases QD hp with rfl|⟨hp,_⟩
   ·rw[show (n',f2).2.F=_ from hF];simp[Fl.crash]
   ·exact hB p hp) (by simp only[List.length_append,List.length_cons,List.length_nil];omega) (hkp.row4 hv)
  refine⟨H3,L3,?_,t2,t3.trans d2,?_,hkp.trans t5⟩
  ·have a1:decide ((done.length:Int)<(a5.length:Int))=true:=by simp;omega
   have a2:(0:Int)≤(done.length:Int)∧(done.length:Int)<(a5.length:Int):=by omega
   have b1:IntKind.i64.wrap ((done.length:Int)+1)=((done++[n']).length:Int):=by rw[JaP (by omega) (by omega)];simp
   have c1:(((f.F.ps.length:Nat):Int)- 0).toNat+1=f.F.ps.length+1:=by omega
   have isM:AH.isMap H (.map m)=true:=YA hD.m
   rw[show (n'::ns).length+1=(ns.length+1)+1 from rfl,Vc]
   rw[hmap] at hlook
   simp only[a1,a2,decide_true,hmap,isM,hlook,he,hs,hsl,hrow,okC hD.d,okC hf.c,MV.isP,MV.isI,kc,MV.num,Nat.beq_refl,List.length_cons,List.length_nil,Nat.reduceAdd,Nat.reduceLeDiff,Nat.ble_eq,and_self,if_true,c1,g1,Option.bind_some,s1,b1]
   exact t1
  ·rw[t4,WG,JhX hD.nd hm,hfl]
end Go.Dk
/- A disk as plain data: what its functions do to it. -/
namespace Go.Dk
open Go Go.Gw Go.Proofs.Se.D
set_option linter.unusedSimpArgs false
set_option linter.unusedVariables false
def WM {α:Type} (L:List (Int×α)) (n:Int):Option α:=(L.find? fun p=>p.1==n).map (·.2)
theorem VL {α:Type} {L:List (Int×α)} {n:Int} {f:α} (h:WM L n=some f):(n,f)∈L:=by
 unfold WM at h
 cases hf:L.find? (fun p=>p.1==n) with
 |none=>rw[hf] at h;cases h
 |some p=>
  rw[hf] at h
  have h1:=List.mem_of_find?_eq_some hf
  have h2:=List.find?_some hf
  simp only[beq_iff_eq] at h2
  simp only[Option.map_some,Option.some.injEq] at h
  obtain⟨p1,p2⟩:=p
  simp only at h2 h
  subst h2;subst h
  exact h1
theorem YB {α:Type} {L:List (Int×α)} {n:Int} (h:WM L n=none):n∉L.map (·.1):=by
 unfold WM at h
 rw[Option.map_eq_none_iff,List.find?_eq_none] at h
 intro hm
 obtain⟨p,hp,rfl⟩:=List.mem_map.1 hm
 exact h p hp (by simp)
theorem JkY {α:Type} {L:List (Int×α)} (hn:(L.map (·.1)).Nodup) {n:Int} {f:α} (h:(n,f)∈L):WM L n=some f:=by
 cases hg:WM L n with
 |none=>exact absurd (List.mem_map.2 ⟨_,h,rfl⟩) (YB hg)
 |some g=>have:=XM hn (VL hg) h rfl;simpa using this
theorem JjR {α:Type} {L:List (Int×α)} {n:Int} (h:n∉L.map (·.1)):WM L n=none:=by
 cases hg:WM L n with
 |none=>rfl
 |some g=>exact absurd (List.mem_map.2 ⟨_,VL hg,rfl⟩) h
theorem JbV (L:List (Int×Fs)) (n:Int):WM (Ja8 L) n=(WM L n).map Fs.F:=by
 unfold WM Ja8
 rw[List.find?_map]
 simp only[Function.comp_def,Option.map_map]
structure Dk where
 lim:Int
 fs:List (Int×Fl)
 off:Bool
 life:Int
 arm:Option (Int×List Bool×Int×Int)
def Wb (fs:List (Int×Fl)):List Int:=(fs.map (·.1)).mergeSort fun x y=>decide (x≤y)
def WQ (fs:List (Int×Fl)):Int:=(fs.map fun p=>((p.2.all.length:Nat):Int)).sum
def Dk.crash (A:Dk) (keep:List Bool) (torn at_:Int):Dk:=
 if A.off=true then A else {A with fs:=WG keep torn at_ (Wb A.fs) 0 A.fs,off:=true,arm:=none,life:=IntKind.i64.wrap (A.life+1)}
def Dk.spend (A:Dk):Int×Dk:=match A.arm with
 |none=>(0,A)
 |some (n,keep,torn,at_)=>
  if IntKind.i64.wrap (n- 1)>0 then(0,{A with arm:=some (IntKind.i64.wrap (n- 1),keep,torn,at_)})
  else(8,Dk.crash {A with arm:=some (IntKind.i64.wrap (n- 1),keep,torn,at_)} keep torn at_)
def Dk.andThen (A:Dk) (g:Dk→Dk):Int×Dk:=if A.spend.1=0 then(0,g A.spend.2) else A.spend
def Dk.create (A:Dk) (n:Int):Int×Dk:=
 if A.off=true then(8,A) else if n<0 then(1,A) else if n≥64 then(1,A) else if(WM A.fs n).isSome=true then(11,A)
 else A.andThen fun A=>{A with fs:=A.fs++[(n,⟨[],[]⟩)]}
def Dk.append (A:Dk) (n:Int) (b:List Int):Int×Dk:=
 if A.off=true then(8,A) else match WM A.fs n with
  |none=>(10,A)
  |some f=>if(b.length:Int)>A.lim-WQ A.fs then(9,A) else Dk.spend {A with fs:=XN A.fs n ⟨f.s,f.ps++[b]⟩}
def Dk.sync (A:Dk) (n:Int):Int×Dk:=
 if A.off=true then(8,A) else match WM A.fs n with
  |none=>(10,A)
  |some f=>A.andThen fun A=>{A with fs:=XN A.fs n f.settle}
def Dk.cut (A:Dk) (n size:Int):Int×Dk:=
 if A.off=true then(8,A) else match WM A.fs n with
  |none=>(10,A)
  |some f=>if size<0 then(1,A) else if size>(f.all.length:Int) then(1,A) else A.andThen fun A=>{A with fs:=XN A.fs n ⟨f.all.take size.toNat,[]⟩}
def Dk.remove (A:Dk) (n:Int):Int×Dk:=
 if A.off=true then(8,A) else match WM A.fs n with
  |none=>(10,A)
  |some _=>A.andThen fun A=>{A with fs:=A.fs.filter fun p=> !(p.1==n)}
def Dk.trip (A:Dk) (n:Int) (keep:List Bool) (torn at_:Int):Dk:={A with arm:=if n≥1 then some (n,keep,torn,at_) else none}
def Dk.start (A:Dk):Dk:={A with off:=false}
def Dk.read (A:Dk) (n:Int):List Int×Int:=
 if A.off=true then([],8) else match WM A.fs n with
  |none=>([],10)
  |some f=>(f.all,0)
def Dk.size (A:Dk) (n:Int):Int:=match WM A.fs n with
 |none=>0
 |some f=>(f.all.length:Int)
def armAt (H:AH) (a:MV):Option (Int×List Bool×Int×Int)→Prop
 |none=>a= .nilp
 |some (n,keep,torn,at_)=>∃t x,a= .ptr t 0∧AH.at H t= .cells 85 [.int .i64 n,Jt 1 x keep.length,.int .i64 torn,.int .i64 at_]∧Xh H 4 1 x (keep.map .bool)
theorem armAt.kp {H H':AH} {a:MV} {r:Option (Int×List Bool×Int×Int)} (h:armAt H a r) (k:Kp H H'):armAt H' a r:=by
 rcases r with _|⟨n,keep,torn,at_⟩
 ·exact h
 ·obtain⟨t,x,h1,h2,h3⟩:=h
  exact⟨t,x,h1,k t _ h2 rfl (fun _=>by simp) (fun _=>by simp) (fun _=>by simp),k.row4 h3⟩
structure Good (c:Nat) (A:Dk):Prop where
 cle:c≤1000000
 rg:∀n∈A.fs.map (·.1),0≤n∧n<64
 ps:∀p∈A.fs,p.2.ps.length≤c
 us:WQ A.fs≤A.lim
 lim:A.lim≤131072
 nd:(A.fs.map (·.1)).Nodup
theorem Good.mono {c c':Nat} {A:Dk} (h:Good c A) (hc:c≤c') (h':c'≤1000000):Good c' A:=⟨h',h.rg,fun p hp=>Nat.le_trans (h.ps p hp) hc,h.us,h.lim,h.nd⟩
def DiskS (c:Nat) (H:AH) (i m:Nat) (js:List (Int×Nat)) (A:Dk):Prop:=
 ∃L a,DiskIn H i m L A.lim A.off A.life a∧Ja8 L=A.fs∧L.map (fun p=>(p.1,p.2.j))=js∧armAt H a A.arm∧Good c A
theorem Jf3 (N:Nat):∀l:List Int,l.Nodup→(∀x∈l,0≤x∧x<(N:Int))→l.length≤N:=by
 induction N with
 |zero=>
  intro l _ h
  cases l with
  |nil=>simp
  |cons a l=>have:=h a (List.mem_cons_self ..);omega
 | succ N ih=>
  intro l hn h
  have h1:=ih (l.erase (N:Int)) (hn.erase _) (fun x hx=>by
   have:=h x (List.mem_of_mem_erase hx)
   have hne:x≠(N:Int):=fun e=>by rw[e] at hx;exact(List.Nodup.not_mem_erase hn) hx
   omega)
  have h2:= @List.length_erase _ _ _ (N:Int) l
  split at h2<;>omega
theorem QN {c:Nat} {A:Dk} (h:Good c A):A.fs.length≤64:=by
 have:=Jf3 64 _ h.nd h.rg
 simpa using this
theorem YF (L:List (Int×Fs)):(Ja8 L).map (·.1)=L.map (·.1):=by simp[Ja8,List.map_map,Function.comp_def]
theorem JiB {c:Nat} {H:AH} {i m:Nat} {L:List (Int×Fs)} {A:Dk} {a:MV} (h:DiskIn H i m L A.lim A.off A.life a) (hf:Ja8 L=A.fs) (g:Good c A):JcI (L.map fun p=>(p.1,MV.ptr p.2.j 0)):=by
 have hk:(L.map fun p=>(p.1,MV.ptr p.2.j 0)).map (·.1)=A.fs.map (·.1):=by rw[←hf,YF,List.map_map];rfl
 refine⟨by rw[hk];exact g.nd,fun x hx=> ?_,?_⟩
 ·rw[hk] at hx
  have:=g.rg x hx
  simp[Lit.wf,IntKind.min,IntKind.max,IntKind.bits,IntKind.signed]
  omega
 ·have h1:=QN g
  have h2:=congrArg List.length hf
  simp only[Ja8,List.length_map] at h2 ⊢
  omega
section
variable {c:Nat} {H:AH} {i m:Nat} {js:List (Int×Nat)} {A:Dk}
theorem Jdt (h:DiskS c H i m js A):Vu H (.ptr i 0)=some (Wb A.fs):=by
 obtain⟨L,a,h,hf,hj,ha,g⟩:=h
 have hmap:AH.rd H (.ptr i 0) 1= .map m:=rdC h.d 1
 have hk:(L.map fun p=>(p.1,MV.ptr p.2.j 0)).map (·.1)=A.fs.map (·.1):=by rw[←hf,YF,List.map_map];rfl
 unfold Vu
 rw[hmap,Jmr h.m,if_pos ⟨rfl,by rw[okC h.d];rfl,YA h.m,JiB h hf g⟩]
 simp only[JbR,Wb,hk]
theorem JlC (h:DiskS c H i m js A):WS H (.ptr i 0)=some (IntKind.i64.wrap (WQ A.fs)):=by
 obtain⟨L,a,h,hf,hj,ha,g⟩:=h
 have hmap:AH.rd H (.ptr i 0) 1= .map m:=rdC h.d 1
 have hp:∀p∈L,AH.rd H (.ptr p.2.j 0) 0=Jt 1 p.2.b p.2.F.all.length∧(Jt 1 p.2.b p.2.F.all.length).len=p.2.F.all.length∧Jei H (.ptr p.2.j 0):=fun p hp=>by
  have hf:=h.f p hp
  have e1:AH.rd H (.ptr p.2.j 0) 0=Jt 1 p.2.b p.2.F.all.length:=rdC hf.c 0
  exact⟨e1,Xw hf.b (by simp),rfl,by rw[okC hf.c];rfl,by rw[e1];exact WI hf.b (by simp)⟩
 unfold WS
 rw[hmap,Jmr h.m,if_pos ⟨rfl,by rw[okC h.d];rfl,YA h.m,JiB h hf g,fun p hq=>by
  obtain⟨q,hq',rfl⟩:=List.mem_map.1 hq
  exact(hp q hq').2.2⟩]
 simp only[Jjb,WQ,←hf,Ja8,List.map_map]
 congr 3
 refine List.map_congr_left fun p hq=> ?_
 simp only[Function.comp_apply,(hp p hq).1,(hp p hq).2.1]
theorem Jl2 (h:DiskS c H i m js A):Vb H (.ptr i 0)=some A.off:=by
 obtain⟨L,a,h,hf,hj,ha,g⟩:=h
 have e1:AH.rd H (.ptr i 0) 2= .bool A.off:=rdC h.d 2
 simp only[Vb,okC h.d,e1,MV.isP,MV.isB,MV.tr,List.length_cons,List.length_nil,Nat.reduceAdd,Nat.reduceLeDiff,Nat.ble_eq,and_self,if_true]
theorem JlE {L:List (Int×Fs)} {lim life:Int} {off:Bool} {a:MV} (h:DiskIn H i m L lim off life a) (n:Int):
  JU H (.ptr i 0) n=some (if off=true then(MV.nilp,(8:Int)) else match WM L n with|none=>(MV.nilp,10)|some f=>(MV.ptr f.j 0,0)):=by
 have e1:AH.rd H (.ptr i 0) 1= .map m:=rdC h.d 1
 have e2:AH.rd H (.ptr i 0) 2= .bool off:=rdC h.d 2
 cases hg:WM L n with
 |none=>
  have hl:=JaV (YB hg)
  cases off<;>simp only[JU,okC h.d,e1,e2,YA h.m,lookM' h.m,hl,MV.isP,MV.isN,MV.isB,MV.tr,List.length_cons,List.length_nil,Nat.reduceAdd,Nat.reduceLeDiff,Nat.ble_eq,and_self,if_true,if_false,true_or,Bool.false_eq_true]
 |some f=>
  have hm:=VL hg
  have hl:=Qu h.nd hm
  have hc:=okC (h.f _ hm).c
  simp only at hc
  cases off<;>simp only[JU,okC h.d,hc,e1,e2,YA h.m,lookM' h.m,hl,MV.isP,MV.isN,MV.isB,MV.tr,List.length_cons,List.length_nil,Nat.reduceAdd,Nat.reduceLeDiff,Nat.ble_eq,and_self,if_true,if_false,true_or,or_true,Bool.false_eq_true]
theorem JlI (h:DiskS c H i m js A) (n:Int):VI H (.ptr i 0) n=some (A.size n):=by
 obtain⟨L,a,h,hf,hj,ha,g⟩:=h
 have e1:AH.rd H (.ptr i 0) 1= .map m:=rdC h.d 1
 unfold Dk.size
 rw[←hf,JbV]
 cases hg:WM L n with
 |none=>
  have hl:=JaV (YB hg)
  simp only[VI,okC h.d,e1,YA h.m,lookM' h.m,hl,MV.isP,MV.isN,List.length_cons,List.length_nil,Nat.reduceAdd,Nat.reduceLeDiff,Nat.ble_eq,and_self,if_true,true_or,Option.map_none]
 |some f=>
  have hm:=VL hg
  have hl:=Qu h.nd hm
  have hff:=h.f _ hm
  simp only at hff
  have e3:AH.rd H (.ptr f.j 0) 0=Jt 1 f.b f.F.all.length:=rdC hff.c 0
  have e4:(Jt 1 f.b f.F.all.length).len=f.F.all.length:=Xw hff.b (by simp)
  have e5:AH.isRow H 1 (Jt 1 f.b f.F.all.length)=true:=WI hff.b (by simp)
  simp only[VI,okC h.d,okC hff.c,e1,e3,e4,e5,YA h.m,lookM' h.m,hl,MV.isP,MV.isN,List.length_cons,List.length_nil,Nat.reduceAdd,Nat.reduceLeDiff,Nat.ble_eq,and_self,if_true,if_false,or_true,Bool.false_eq_true,Option.map_some]
end
end Go.Dk
/- What changes a disk, as plain data and in memory. -/
namespace Go.Dk
open Go Go.Gw Go.Proofs.Se.D
set_option linter.unusedSimpArgs false
set_option linter.unusedVariables false
theorem Jjz (L:List (Int×Fs)) (n:Int) (f:Fs):Ja8 (XN L n f)=XN (Ja8 L) n f.F:=JfB L n f Fs.F
theorem Jhu (keep:List Bool) (torn at_:Int) (k:Nat) (f:Fl):(f.crash keep torn at_ k).all.length=f.all.length:=by
 have:∀(ps:List (List Int)) (k:Nat),(Jbx keep torn at_ k ps).flatten.length=ps.flatten.length:=by
  intro ps
  induction ps with
  |nil=>intro k;rfl
  |cons p ps ih=>intro k;simp only[Jbx,List.flatten_cons,List.length_append,Jdn,ih]
 simp only[Fl.crash,Fl.all,List.flatten_nil,List.append_nil,List.length_append,this]
theorem Jct (keep:List Bool) (torn at_:Int) (ns:List Int):∀(k:Nat) (fs:List (Int×Fl)),(WG keep torn at_ ns k fs).map (fun p=>(p.1,p.2.all.length))=fs.map fun p=>(p.1,p.2.all.length):=by
 induction ns with
 |nil=>intro k fs;rfl
 |cons n ns ih=>
  intro k fs
  rw[WG,ih,List.map_map]
  refine List.map_congr_left fun p _=> ?_
  simp only[Function.comp_apply]
  split
  ·rename_i e;simp only[Jhu,←e]
  ·rfl
theorem Jca (keep:List Bool) (torn at_:Int) (ns:List Int) (k:Nat) (fs:List (Int×Fl)):(WG keep torn at_ ns k fs).map (·.1)=fs.map (·.1):=by
 have:=congrArg (List.map Prod.fst) (Jct keep torn at_ ns k fs)
 simpa[List.map_map,Function.comp_def] using this
theorem Jfk (keep:List Bool) (torn at_:Int) (ns:List Int) (k:Nat) (fs:List (Int×Fl)):WQ (WG keep torn at_ ns k fs)=WQ fs:=by
 have:=congrArg (fun l=>(l.map fun p:Int×Nat=>(p.2:Int)).sum) (Jct keep torn at_ ns k fs)
 simpa[List.map_map,Function.comp_def,WQ] using this
theorem Jhc (keep:List Bool) (torn at_:Int) (ns:List Int):∀(k c:Nat) (fs:List (Int×Fl)),(∀p∈fs,p.2.ps.length≤c)→∀p∈WG keep torn at_ ns k fs,p.2.ps.length≤c:=by
 induction ns with
 |nil=>intro k c fs h;exact h
 |cons n ns ih=>
  intro k c fs h
  refine ih _ c _ fun p hp=> ?_
  obtain⟨q,hq,rfl⟩:=List.mem_map.1 hp
  split
  ·simp[Fl.crash]
  ·exact h q hq
theorem XP (fs:List (Int×Fl)) (n:Int):n∈Wb fs↔n∈fs.map (·.1):=by unfold Wb;exact List.mem_mergeSort
theorem JcP {c:Nat} {A:Dk} (h:Good c A) (keep:List Bool) (torn at_:Int):Good c (A.crash keep torn at_):=by
 unfold Dk.crash
 split
 ·exact h
 ·exact⟨h.cle,by rw[Jca];exact h.rg,Jhc _ _ _ _ _ _ _ h.ps,by rw[Jfk];exact h.us,h.lim,by rw[Jca];exact h.nd⟩
theorem JjX {c:Nat} {A:Dk} (h:Good c A) (r:Option (Int×List Bool×Int×Int)):Good c {A with arm:=r}:=⟨h.cle,h.rg,h.ps,h.us,h.lim,h.nd⟩
def Ke (y:Nat) (H H':AH):Prop:=∀x o,AH.at H x=o→o.live=true→x≠y→AH.at H' x=o
theorem Ke.set (y:Nat) (H:AH) (o:MO):Ke y H (H.set y o):=fun x o' h _ hn=>(Vg (Ne.symm hn)).trans h
theorem Ke.kp {H H':AH} {y:Nat} (k:Ke y H H') (r:Option Nat) (l:List MV) (e:Nat) (hy:∀l,AH.at H y≠ .row e 1 l) (h:Xh H e 1 r l):Xh H' e 1 r l:=by
 cases r with
 |none=>exact h
 |some r=>exact k r _ h rfl (fun e=>hy _ (e▸h))
theorem DiskIn.core {H H':AH} {i m:Nat} {L:List (Int×Fs)} {lim life:Int} {off:Bool} {a:MV} (h:DiskIn H i m L lim off life a) {lim' life':Int} {off':Bool} {a':MV}
  (hf:∀p∈L,∀x∈p.2.objs,AH.at H' x=AH.at H x) (hi:AH.at H' i= .cells 73 [.int .i64 lim',.map m,.bool off',.int .i64 life',a']) (hm:AH.at H' m=AH.at H m):DiskIn H' i m L lim' off' life' a':=by
 refine⟨hi,hm.trans h.m,fun p hp=> ?_,h.nd,h.ap⟩
 have g:=h.f p hp
 have k:=hf p hp
 refine⟨(k _ (List.mem_cons_self ..)).trans g.c,?_,?_,g.n⟩
 ·have:=g.b
  cases hb:p.2.b with
  |none=>rw[hb] at this;exact this
  |some r=>rw[hb] at this;exact(k r (by simp[Fs.objs,hb])).trans this
 ·have:=g.e
  cases hb:p.2.e with
  |none=>rw[hb] at this;exact this
  |some r=>rw[hb] at this;exact(k r (by simp[Fs.objs,hb])).trans this
theorem DiskIn.ke {H H':AH} {i m:Nat} {L:List (Int×Fs)} {lim life:Int} {off:Bool} {a:MV} (h:DiskIn H i m L lim off life a) {lim' life':Int} {off':Bool} {a':MV}
  {y:Nat} (k:Ke y H H') (hy:∀l,AH.at H y≠ .cells 98 l) (hy2:∀e sz l,AH.at H y≠ .row e sz l) (hy3:∀l,AH.at H y≠ .map l) (hi:AH.at H' i= .cells 73 [.int .i64 lim',.map m,.bool off',.int .i64 life',a']):DiskIn H' i m L lim' off' life' a':=by
 refine h.core (fun p hp x hx=>k x _ rfl ((h.f p hp).live hx) ?_) hi (k m _ rfl (by rw[h.m];rfl) fun e=>hy3 _ (e▸h.m))
 rintro rfl
 rcases(h.f p hp).kind hx with⟨l,q⟩|⟨l,q⟩|⟨l,q⟩
 ·exact hy _ q
 ·exact hy2 _ _ _ q
 ·exact hy2 _ _ _ q
theorem DiskIn.cell {H:AH} {i m:Nat} {L:List (Int×Fs)} {lim life:Int} {off:Bool} {a:MV} (h:DiskIn H i m L lim off life a) (lim':Int) (off':Bool) (life':Int) (a':MV):
  DiskIn (H.set i (.cells 73 [.int .i64 lim',.map m,.bool off',.int .i64 life',a'])) i m L lim' off' life' a'∧∀r,armAt H a r→armAt (H.set i (.cells 73 [.int .i64 lim',.map m,.bool off',.int .i64 life',a'])) a r:=by
 have k:=Ke.set i H (.cells 73 [.int .i64 lim',.map m,.bool off',.int .i64 life',a'])
 refine⟨h.ke k (fun l=>by rw[h.d];simp) (fun e sz l=>by rw[h.d];simp) (fun l=>by rw[h.d];simp) (VS h.d rfl),fun r hr=> ?_⟩
 rcases r with _|⟨n,keep,torn,at_⟩
 ·exact hr
 ·obtain⟨t,x,h1,h2,h3⟩:=hr
  refine⟨t,x,h1,k t _ h2 rfl ?_,k.kp _ _ _ (fun l=>by rw[h.d];simp) h3⟩
  rintro rfl
  rw[h.d] at h2;cases h2
theorem Jjj {c:Nat} {H:AH} {i m:Nat} {js:List (Int×Nat)} {A:Dk} (h:DiskS c H i m js A) (keep:List Bool) (torn at_:Int):
  ∃H',Vh H (.ptr i 0) keep torn at_=some H'∧DiskS c H' i m js (A.crash keep torn at_):=by
 have hfl:=Jdt h
 obtain⟨L,a,h,hf,hj,ha,g⟩:=h
 have e1:AH.rd H (.ptr i 0) 2= .bool A.off:=rdC h.d 2
 by_cases hoff:A.off=true
 ·refine⟨H,?_,?_⟩
  ·simp only[Vh,okC h.d,e1,hoff,MV.isP,MV.isB,MV.tr,List.length_cons,List.length_nil,Nat.reduceAdd,Nat.reduceLeDiff,Nat.ble_eq,and_self,if_true]
  ·rw[Dk.crash,if_pos hoff];exact⟨L,a,h,hf,hj,ha,g⟩
 ·have hoff:A.off=false:=by simpa using hoff
  obtain⟨H1,L1,l1,l2,l3,l4,l5⟩:= @Jna (.ptr i 0) keep torn at_ (Wb A.fs) i m A.lim A.life A.off a  rfl (by
    have:=QN g
    rw[Wb,List.length_mergeSort,List.length_map];omega) (Wb A.fs) [] L H 0 h rfl (fun n hn=>by rw[←YF,hf];exact(XP _ _).1 hn) (fun p hp=>by
    have:=g.ps (p.1,p.2.F) (by rw[←hf];exact List.mem_map.2 ⟨p,hp,rfl⟩)
    have:=g.cle
    simp only at*
    omega) (Nat.zero_le _) 
  simp only[List.length_nil,show ((0:Nat):Int)=0 from rfl] at l1
  have c1:(((Wb A.fs).length:Int)- 0).toNat+1=(Wb A.fs).length+1:=by omega
  have w1:AH.wr H1 (.ptr i 0) 2 [.bool true]=H1.set i (.cells 73 [.int .i64 A.lim,.map m,.bool true,.int .i64 A.life,a]):=wrC l2.d 2 _
  have d1:= @VS H1 i _ (.cells 73 [.int .i64 A.lim,.map m,.bool true,.int .i64 A.life,a]) l2.d rfl
  have w2:AH.wr (H1.set i (.cells 73 [.int .i64 A.lim,.map m,.bool true,.int .i64 A.life,a])) (.ptr i 0) 4 [.nilp]=H1.set i (.cells 73 [.int .i64 A.lim,.map m,.bool true,.int .i64 A.life,.nilp]):=(wrC d1 4 _).trans (List.set_set ..)
  have d2:= @VS H1 i _ (.cells 73 [.int .i64 A.lim,.map m,.bool true,.int .i64 A.life,.nilp]) l2.d rfl
  have r2:AH.rd (H1.set i (.cells 73 [.int .i64 A.lim,.map m,.bool true,.int .i64 A.life,.nilp])) (.ptr i 0) 3= .int .i64 A.life:=rdC d2 3
  have w3:AH.wr (H1.set i (.cells 73 [.int .i64 A.lim,.map m,.bool true,.int .i64 A.life,.nilp])) (.ptr i 0) 3 [.int .i64 (IntKind.i64.wrap (A.life+1))]=H1.set i (.cells 73 [.int .i64 A.lim,.map m,.bool true,.int .i64 (IntKind.i64.wrap (A.life+1)),.nilp]):=(wrC d2 3 _).trans (List.set_set ..)
  obtain⟨q1,q2⟩:=l2.cell A.lim true (IntKind.i64.wrap (A.life+1)) .nilp
  refine⟨H1.set i (.cells 73 [.int .i64 A.lim,.map m,.bool true,.int .i64 (IntKind.i64.wrap (A.life+1)),.nilp]),?_,L1,.nilp,?_,?_,l3.trans hj,?_,JcP g keep torn at_⟩
  ·simp only[Vh,okC h.d,e1,hoff,MV.isP,MV.isB,MV.tr,List.length_cons,List.length_nil,Nat.reduceAdd,Nat.reduceLeDiff,Nat.ble_eq,and_self,if_true,if_false,Bool.false_eq_true,hfl,Option.bind_some,c1,l1,okC l2.d,w1,okC d1,w2,okC d2,r2,MV.isI,kc,Nat.beq_refl,MV.num,w3]
  ·rw[Dk.crash,if_neg (by simp[hoff])];exact q1
  ·rw[Dk.crash,if_neg (by simp[hoff]),l4,hf]
  ·rw[Dk.crash,if_neg (by simp[hoff])];rfl
theorem Jgu {c:Nat} {H:AH} {i m:Nat} {js:List (Int×Nat)} {A:Dk} {x:Option Nat} (h:DiskS c H i m js A) (keep:List Bool) (torn at_:Int) (hv:Xh H 4 1 x (keep.map .bool)):
  ∃H',VX H (.ptr i 0) (Jt 1 x keep.length) torn at_=some H'∧DiskS c H' i m js (A.crash keep torn at_):=by
 have hfl:=Jdt h
 obtain⟨L,a,h,hf,hj,ha,g⟩:=h
 have e1:AH.rd H (.ptr i 0) 2= .bool A.off:=rdC h.d 2
 by_cases hoff:A.off=true
 ·refine⟨H,?_,?_⟩
  ·simp only[VX,okC h.d,e1,hoff,MV.isP,MV.isB,MV.tr,List.length_cons,List.length_nil,Nat.reduceAdd,Nat.reduceLeDiff,Nat.ble_eq,and_self,if_true]
  ·rw[Dk.crash,if_pos hoff];exact⟨L,a,h,hf,hj,ha,g⟩
 ·have hoff:A.off=false:=by simpa using hoff
  obtain⟨H1,L1,l1,l2,l3,l4,l5⟩:= @JkI (.ptr i 0) keep torn at_ (Wb A.fs) i m A.lim A.life A.off a x rfl (by
    have:=QN g
    rw[Wb,List.length_mergeSort,List.length_map];omega) (Wb A.fs) [] L H 0 h rfl (fun n hn=>by rw[←YF,hf];exact(XP _ _).1 hn) (fun p hp=>by
    have:=g.ps (p.1,p.2.F) (by rw[←hf];exact List.mem_map.2 ⟨p,hp,rfl⟩)
    have:=g.cle
    simp only at*
    omega) (Nat.zero_le _) hv
  simp only[List.length_nil,show ((0:Nat):Int)=0 from rfl] at l1
  have c1:(((Wb A.fs).length:Int)- 0).toNat+1=(Wb A.fs).length+1:=by omega
  have w1:AH.wr H1 (.ptr i 0) 2 [.bool true]=H1.set i (.cells 73 [.int .i64 A.lim,.map m,.bool true,.int .i64 A.life,a]):=wrC l2.d 2 _
  have d1:= @VS H1 i _ (.cells 73 [.int .i64 A.lim,.map m,.bool true,.int .i64 A.life,a]) l2.d rfl
  have w2:AH.wr (H1.set i (.cells 73 [.int .i64 A.lim,.map m,.bool true,.int .i64 A.life,a])) (.ptr i 0) 4 [.nilp]=H1.set i (.cells 73 [.int .i64 A.lim,.map m,.bool true,.int .i64 A.life,.nilp]):=(wrC d1 4 _).trans (List.set_set ..)
  have d2:= @VS H1 i _ (.cells 73 [.int .i64 A.lim,.map m,.bool true,.int .i64 A.life,.nilp]) l2.d rfl
  have r2:AH.rd (H1.set i (.cells 73 [.int .i64 A.lim,.map m,.bool true,.int .i64 A.life,.nilp])) (.ptr i 0) 3= .int .i64 A.life:=rdC d2 3
  have w3:AH.wr (H1.set i (.cells 73 [.int .i64 A.lim,.map m,.bool true,.int .i64 A.life,.nilp])) (.ptr i 0) 3 [.int .i64 (IntKind.i64.wrap (A.life+1))]=H1.set i (.cells 73 [.int .i64 A.lim,.map m,.bool true,.int .i64 (IntKind.i64.wrap (A.life+1)),.nilp]):=(wrC d2 3 _).trans (List.set_set ..)
  obtain⟨q1,q2⟩:=l2.cell A.lim true (IntKind.i64.wrap (A.life+1)) .nilp
  refine⟨H1.set i (.cells 73 [.int .i64 A.lim,.map m,.bool true,.int .i64 (IntKind.i64.wrap (A.life+1)),.nilp]),?_,L1,.nilp,?_,?_,l3.trans hj,?_,JcP g keep torn at_⟩
  ·simp only[VX,okC h.d,e1,hoff,MV.isP,MV.isB,MV.tr,List.length_cons,List.length_nil,Nat.reduceAdd,Nat.reduceLeDiff,Nat.ble_eq,and_self,if_true,if_false,Bool.false_eq_true,hfl,Option.bind_some,c1,l1,okC l2.d,w1,okC d1,w2,okC d2,r2,MV.isI,kc,Nat.beq_refl,MV.num,w3]
  ·rw[Dk.crash,if_neg (by simp[hoff])];exact q1
  ·rw[Dk.crash,if_neg (by simp[hoff]),l4,hf]
  ·rw[Dk.crash,if_neg (by simp[hoff])];rfl
theorem Jkg {c:Nat} {H:AH} {i m:Nat} {js:List (Int×Nat)} {A:Dk} (h:DiskS c H i m js A):∃H',Vs H (.ptr i 0)=some H'∧DiskS c H' i m js A.start:=by
 obtain⟨L,a,h,hf,hj,ha,g⟩:=h
 have w1:AH.wr H (.ptr i 0) 2 [.bool false]=H.set i (.cells 73 [.int .i64 A.lim,.map m,.bool false,.int .i64 A.life,a]):=wrC h.d 2 _
 obtain⟨q1,q2⟩:=h.cell A.lim false A.life a
 refine⟨_,?_,L,a,q1,hf,hj,q2 _ ha,⟨g.cle,g.rg,g.ps,g.us,g.lim,g.nd⟩⟩
 simp only[Vs,okC h.d,MV.isP,List.length_cons,List.length_nil,Nat.reduceAdd,Nat.reduceLeDiff,Nat.ble_eq,and_self,if_true,w1]
theorem JaK {c:Nat} {H:AH} {i m:Nat} {js:List (Int×Nat)} {A:Dk} (h:DiskS c H i m js A):∃H',JX H (.ptr i 0)=some (A.spend.1,H')∧DiskS c H' i m js A.spend.2:=by
 obtain⟨L,a,h,hf,hj,ha,g⟩:=h
 have e1:AH.rd H (.ptr i 0) 4=a:=rdC h.d 4
 unfold Dk.spend
 cases hr:A.arm with
 |none=>
  rw[hr] at ha
  have ha:a= .nilp:=ha
  subst ha
  refine⟨H,?_,L,_,h,hf,hj,by rw[hr];rfl,g⟩
  simp only[JX,okC h.d,e1,MV.isP,MV.isN,List.length_cons,List.length_nil,Nat.reduceAdd,Nat.reduceLeDiff,Nat.ble_eq,and_self,if_true,true_or]
 | some r=>
  obtain⟨n,keep,torn,at_⟩:=r
  rw[hr] at ha
  obtain⟨t,x,rfl,h2,h3⟩:=ha
  have e2:AH.rd H (.ptr t 0) 0= .int .i64 n:=rdC h2 0
  have w1:AH.wr H (.ptr t 0) 0 [.int .i64 (IntKind.i64.wrap (n- 1))]=H.set t (.cells 85 [.int .i64 (IntKind.i64.wrap (n- 1)),Jt 1 x keep.length,.int .i64 torn,.int .i64 at_]):=wrC h2 0 _
  have t1:= @VS H t _ (.cells 85 [.int .i64 (IntKind.i64.wrap (n- 1)),Jt 1 x keep.length,.int .i64 torn,.int .i64 at_]) h2 rfl
  have k:=Ke.set t H (.cells 85 [.int .i64 (IntKind.i64.wrap (n- 1)),Jt 1 x keep.length,.int .i64 torn,.int .i64 at_])
  have hne:i≠t:=by
   rintro rfl
   rw[h.d] at h2;cases h2
  have d1:=k i _ h.d rfl hne
  have q1:=h.ke k (fun l=>by rw[h2];simp) (fun e sz l=>by rw[h2];simp) (fun l=>by rw[h2];simp) d1
  have q3:=k.kp _ _ _ (fun l=>by rw[h2];simp) h3
  generalize H.set t (.cells 85 [.int .i64 (IntKind.i64.wrap (n- 1)),Jt 1 x keep.length,.int .i64 torn,.int .i64 at_])=H1 at*
  have e3:AH.rd H1 (.ptr i 0) 4= .ptr t 0:=rdC d1 4
  have e4:AH.rd H1 (.ptr t 0) 0= .int .i64 (IntKind.i64.wrap (n- 1)):=rdC t1 0
  have e5:AH.rd H1 (.ptr t 0) 1=Jt 1 x keep.length:=rdC t1 1
  have e6:AH.rd H1 (.ptr t 0) 2= .int .i64 torn:=rdC t1 2
  have e7:AH.rd H1 (.ptr t 0) 3= .int .i64 at_:=rdC t1 3
  have hS:DiskS c H1 i m js {A with arm:=some (IntKind.i64.wrap (n- 1),keep,torn,at_)}:=⟨L,_,q1,hf,hj,⟨t,x,rfl,t1,q3⟩,JjX g _⟩
  by_cases hn:IntKind.i64.wrap (n- 1)>0
  ·refine⟨H1,?_,?_⟩
   ·simp only[JX,okC h.d,okC h2,okC d1,okC t1,e1,e2,w1,e3,e4,e5,e6,e7,MV.isP,MV.isN,MV.isI,kc,MV.num,Nat.beq_refl,List.length_cons,List.length_nil,Nat.reduceAdd,Nat.reduceLeDiff,Nat.ble_eq,and_self,if_true,if_false,or_true,Bool.false_eq_true,hn,decide_true]
   ·simp only[if_pos hn];exact hS
  ·obtain⟨H2,c1,c2⟩:=Jgu hS keep torn at_ q3
   refine⟨H2,?_,?_⟩
   ·simp only[JX,okC h.d,okC h2,okC d1,okC t1,e1,e2,w1,e3,e4,e5,e6,e7,MV.isP,MV.isN,MV.isI,kc,MV.num,Nat.beq_refl,List.length_cons,List.length_nil,Nat.reduceAdd,Nat.reduceLeDiff,Nat.ble_eq,and_self,if_true,if_false,or_true,Bool.false_eq_true,hn,decide_false,c1,Option.bind_some]
   ·simp only[if_neg hn];exact c2
end Go.Dk
/- What slices.Concat and slices.Clone answer. -/
namespace Go.Dk
open Go Go.Gw Go.Proofs.Se.D
theorem Jaw (x:Int) (h0:0≤x) (h1:x<9223372036854775808):IntKind.i64.wrap x=x:=by
 simp only[IntKind.wrap,IntKind.bits,IntKind.signed]
 simp
 omega
theorem take_succ' (ls:List (List Int)) (i:Nat) (h:i<ls.length):ls.take (i+1)=ls.take i++[ls.getD i []]:=by
 rw[List.take_succ_eq_append_getElem h]
 simp[List.getD,h]
theorem JiH (ls:List (List Int)) (i:Nat):(ls.take i).flatten.length≤ls.flatten.length:=by
 conv=>rhs;rw[←List.take_append_drop i ls,List.flatten_append,List.length_append]
 omega
theorem JmU (ls:List (List Int)) (hb:ls.flatten.length≤1000000) (hl:ls.length≤1000000):∀j i:Nat,i+j=ls.length→
  JH ls (j+1) (((ls.take i).flatten.length:Nat):Int) (i:Int)=some ((ls.flatten.length:Nat):Int):=by
 intro j
 induction j with
 |zero=>
  intro i hi
  have:i=ls.length:=by omega
  subst this
  rw[JH,if_neg (by simp),List.take_length]
 | succ j ih=>
  intro i hi
  have hlt:i<ls.length:=by omega
  have e1:(i:Int).toNat=i:=rfl
  have f1:=JiH ls (i+1)
  have f2:(ls.take (i+1)).flatten.length=(ls.take i).flatten.length+(ls.getD i []).length:=by
   rw[take_succ' ls i hlt,List.flatten_append,List.length_append];simp
  have e2:IntKind.i64.wrap ((((ls.take i).flatten.length:Nat):Int)+((ls.getD i []).length:Int))=(((ls.take (i+1)).flatten.length:Nat):Int):=by
   rw[Jaw _ (by omega) (by omega)];omega
  have e3:IntKind.i64.wrap ((i:Int)+1)=((i+1:Nat):Int):=by rw[Jaw _ (by omega) (by omega)];omega
  rw[JH,if_pos (decide_eq_true (by omega)),if_pos ⟨by omega,by omega⟩,e1,e2,e3,if_neg (by simp),ih (i+1) (by omega)];rfl
theorem Jm8 (ls:List (List Int)) (hb:ls.flatten.length≤1000000) (hl:ls.length≤1000000):∀j i:Nat,i+j=ls.length→
  JG ls (j+1) (ls.take i).flatten (i:Int)=some ls.flatten:=by
 intro j
 induction j with
 |zero=>
  intro i hi
  have:i=ls.length:=by omega
  subst this
  rw[JG,if_neg (by simp),List.take_length]
 | succ j ih=>
  intro i hi
  have hlt:i<ls.length:=by omega
  have e1:(i:Int).toNat=i:=rfl
  have f1:=JiH ls (i+1)
  have f2:(ls.take i).flatten++ls.getD i []=(ls.take (i+1)).flatten:=by
   rw[take_succ' ls i hlt,List.flatten_append];simp
  have e3:IntKind.i64.wrap ((i:Int)+1)=((i+1:Nat):Int):=by rw[Jaw _ (by omega) (by omega)];omega
  rw[JG,if_pos (decide_eq_true (by omega)),if_pos ⟨by omega,by omega⟩,e1,e3,f2,if_pos (by unfold Qi;omega),ih (i+1) (by omega)]
theorem JkK (n:Nat) (h:n≤1000000):VM (n:Int)=some []:=by
 unfold VM
 have e:IntKind.i64.wrap ((n:Int)- 0)=(n:Int):=by rw[Jaw _ (by omega) (by omega)];omega
 rw[if_neg (by simp)]
 refine(Option.bind_some _ _).trans ?_
 rw[e]
 by_cases hn:n=0
 ·subst hn;rfl
 ·rw[if_pos (decide_eq_true (by omega)),if_pos ⟨by omega,by unfold Qi;omega⟩,if_pos ⟨by decide,by omega⟩];rfl
theorem JaN (ls:List (List Int)) (hb:ls.flatten.length≤1000000) (hl:ls.length≤1000000):JC ls=some ls.flatten:=by
 have a:=JmU ls hb hl ls.length 0 (by omega)
 have b:=Jm8 ls hb hl ls.length 0 (by omega)
 have e:(((↑(List.length ls):Int)- (0:Int)).toNat+1)=ls.length+1:=by omega
 unfold JC
 rw[e]
 exact(congrArg (fun z=>Option.bind z _) a).trans (by
  rw[Option.bind_some,JkK _ hb,Option.bind_some]
  exact(congrArg (fun z=>Option.bind z _) b).trans rfl)
theorem Jdy (l:List Int) (h:l.length≤1000000):Vd l=some l:=by
 unfold Vd VN
 rw[List.nil_append,if_pos (by unfold Qi;omega)]
end Go.Dk
/- What is put behind a file, cut, synced; new files; files that go. -/
namespace Go.Dk
open Go Go.Gw Go.Proofs.Se.D
set_option linter.unusedSimpArgs false
set_option linter.unusedVariables false
theorem Qz {A:Dk} (h:A.spend.1=0):∃r,A.spend.2={A with arm:=r}:=by
 unfold Dk.spend at h ⊢
 cases hr:A.arm with
 |none=>
  obtain⟨_,_,_,_,r⟩:=A
  simp only at hr
  subst hr
  exact⟨none,rfl⟩
 |some r=>
  obtain⟨n,keep,torn,at_⟩:=r
  simp only[hr] at h
  by_cases hn:IntKind.i64.wrap (n- 1)>0
  ·simp only[if_pos hn];exact⟨_,rfl⟩
  ·simp only[if_neg hn] at h;cases h
theorem YT {H H':AH} {e sz:Nat} {x:Option Nat} {l:List MV} (h:Xh H e sz x l) (k:∀r,x=some r→AH.at H r= .row e sz l→AH.at H' r= .row e sz l):Xh H' e sz x l:=by
 cases x with
 |none=>exact h
 |some r=>exact k _ rfl h
theorem JfS (fs:List (Int×Fl)):0≤WQ fs:=by
 unfold WQ
 induction fs with
 |nil=>simp
 |cons p fs ih=>simp only[List.map_cons,List.sum_cons];omega
theorem JbH {fs:List (Int×Fl)} {n:Int} {f:Fl} (h:(n,f)∈fs):(f.all.length:Int)≤WQ fs:=by
 induction fs with
 |nil=>cases h
 | cons p fs ih=>
  have:=JfS fs
  rcases List.mem_cons.1 h with rfl|h
  ·simp only[WQ,List.map_cons,List.sum_cons] at*;omega
  ·have:=ih h
   simp only[WQ,List.map_cons,List.sum_cons] at*;omega
theorem JjB {α:Type} {L:List (Int×α)} {n:Int} (f:α) (h:n∉L.map (·.1)):XN L n f=L:=by
 refine(List.map_congr_left fun p hp=> ?_).trans (List.map_id L)
 rw[if_neg];rfl
 rintro rfl
 exact h (List.mem_map.2 ⟨p,hp,rfl⟩)
theorem JjV {fs:List (Int×Fl)} (hn:(fs.map (·.1)).Nodup) {n:Int} {f:Fl} (h:(n,f)∈fs) (f':Fl):WQ (XN fs n f')=WQ fs- (f.all.length:Int)+(f'.all.length:Int):=by
 induction fs with
 |nil=>cases h
 | cons p fs ih=>
  simp only[List.map_cons,List.nodup_cons] at hn
  rcases List.mem_cons.1 h with rfl|h
  ·have:=JjB f' hn.1
   simp only[XN,WQ,List.map_cons,List.sum_cons,if_true] at*
   rw[this];omega
  ·have hne:p.1≠n:=fun e=>hn.1 (by rw[e];exact List.mem_map.2 ⟨_,h,rfl⟩)
   have:=ih hn.2 h
   simp only[XN,WQ,List.map_cons,List.sum_cons,if_neg hne] at*
   rw[this];omega
theorem Jdl {c:Nat} {A:Dk} (h:Good c A) {c':Nat} (hc:c≤c') (hc':c'≤1000000) {n:Int} {f f':Fl} (hm:(n,f)∈A.fs) (hp:f'.ps.length≤c') (hu:WQ A.fs- (f.all.length:Int)+(f'.all.length:Int)≤A.lim):Good c' {A with fs:=XN A.fs n f'}:=by
 refine⟨hc',by rw[Qw];exact h.rg,fun p hq=> ?_,by rw[JjV h.nd hm];exact hu,h.lim,by rw[Qw];exact h.nd⟩
 rcases QD hq with rfl|⟨hq,_⟩
 ·exact hp
 ·exact Nat.le_trans (h.ps p hq) hc
theorem JkP {c':Nat} {H H':AH} {i m:Nat} {js:List (Int×Nat)} {A:Dk} {L:List (Int×Fs)} {a:MV} (h:DiskIn H i m L A.lim A.off A.life a) (hf:Ja8 L=A.fs) (hj:L.map (fun p=>(p.1,p.2.j))=js) (ha:armAt H a A.arm)
  {n:Int} {f f':Fs} (hm:(n,f)∈L) (u:FUpd H H' f f') (g:Good c' {A with fs:=XN A.fs n f'.F}):DiskS c' H' i m js {A with fs:=XN A.fs n f'.F}:=by
 obtain⟨q1,q2⟩:=h.upd hm u
 exact⟨XN L n f',a,q1,by rw[Jjz,hf],q2.trans hj,ha.kp (u.kp (h.f _ hm)),g⟩
theorem DiskS.mono {c c':Nat} {H:AH} {i m:Nat} {js:List (Int×Nat)} {A:Dk} (h:DiskS c H i m js A) (hc:c≤c') (hc':c'≤1000000):DiskS c' H i m js A:=by
 obtain⟨L,a,h1,h2,h3,h4,h5⟩:=h
 exact⟨L,a,h1,h2,h3,h4,h5.mono hc hc'⟩
theorem JkS {H:AH} {f:Fs} (h:f.At H) (b:List Int):
  FUpd H (AH.wr (AH.app (AH.wr (H++[MO.row 5 1 ((f.F.all++b).map (MV.int .u8))]) (.ptr f.j 0) 0 [.slc H.length 1 0 (f.F.all++b).length]) (Jt 1 f.e f.F.ps.length) 3 1 ([((f.F.all++b).length:Int)].map (MV.int .i64))) (.ptr f.j 0) 2 [.slc (H.length+1) 1 0 (f.F.ps.length+1)])
   f ⟨f.j,some H.length,some (H.length+1),⟨f.F.s,f.F.ps++[b]⟩⟩∧
  AH.at (AH.wr (H++[MO.row 5 1 ((f.F.all++b).map (MV.int .u8))]) (.ptr f.j 0) 0 [.slc H.length 1 0 (f.F.all++b).length]) f.j= .cells 98 [.slc H.length 1 0 (f.F.all++b).length,.int .i64 (f.F.s.length:Int),Jt 1 f.e f.F.ps.length]∧
  AH.at (AH.wr (H++[MO.row 5 1 ((f.F.all++b).map (MV.int .u8))]) (.ptr f.j 0) 0 [.slc H.length 1 0 (f.F.all++b).length]) H.length= .row 5 1 ((f.F.all++b).map (MV.int .u8))∧
  Xh (AH.wr (H++[MO.row 5 1 ((f.F.all++b).map (MV.int .u8))]) (.ptr f.j 0) 0 [.slc H.length 1 0 (f.F.all++b).length]) 3 1 f.e ((Wz f.F.s.length f.F.ps).map (.int .i64))∧
  AH.at (AH.app (AH.wr (H++[MO.row 5 1 ((f.F.all++b).map (MV.int .u8))]) (.ptr f.j 0) 0 [.slc H.length 1 0 (f.F.all++b).length]) (Jt 1 f.e f.F.ps.length) 3 1 ([((f.F.all++b).length:Int)].map (MV.int .i64))) f.j= .cells 98 [.slc H.length 1 0 (f.F.all++b).length,.int .i64 (f.F.s.length:Int),Jt 1 f.e f.F.ps.length]∧
  (AH.wr (H++[MO.row 5 1 ((f.F.all++b).map (MV.int .u8))]) (.ptr f.j 0) 0 [.slc H.length 1 0 (f.F.all++b).length]).length=H.length+1:=by
 have hjl:=at_lt h.c rfl
 have a1:AH.at (H++[MO.row 5 1 ((f.F.all++b).map (MV.int .u8))]) f.j=_:=YO h.c rfl
 have w1:AH.wr (H++[MO.row 5 1 ((f.F.all++b).map (MV.int .u8))]) (.ptr f.j 0) 0 [.slc H.length 1 0 (f.F.all++b).length]=(H++[MO.row 5 1 ((f.F.all++b).map (MV.int .u8))]).set f.j (.cells 98 [.slc H.length 1 0 (f.F.all++b).length,.int .i64 (f.F.s.length:Int),Jt 1 f.e f.F.ps.length]):=wrC a1 0 _
 rw[w1]
 have b1:= @VS _ f.j _ (.cells 98 [.slc H.length 1 0 (f.F.all++b).length,.int .i64 (f.F.s.length:Int),Jt 1 f.e f.F.ps.length]) a1 rfl
 have b2:AH.at ((H++[MO.row 5 1 ((f.F.all++b).map (MV.int .u8))]).set f.j (.cells 98 [.slc H.length 1 0 (f.F.all++b).length,.int .i64 (f.F.s.length:Int),Jt 1 f.e f.F.ps.length])) H.length= .row 5 1 ((f.F.all++b).map (MV.int .u8)):=(Vg (by omega)).trans (Jb0 _ _)
 have b3:∀x o,AH.at H x=o→o.live=true→x≠f.j→AH.at ((H++[MO.row 5 1 ((f.F.all++b).map (MV.int .u8))]).set f.j (.cells 98 [.slc H.length 1 0 (f.F.all++b).length,.int .i64 (f.F.s.length:Int),Jt 1 f.e f.F.ps.length])) x=o:=fun x o hx hl hn=>(Vg (Ne.symm hn)).trans (YO hx hl)
 have bl:((H++[MO.row 5 1 ((f.F.all++b).map (MV.int .u8))]).set f.j (.cells 98 [.slc H.length 1 0 (f.F.all++b).length,.int .i64 (f.F.s.length:Int),Jt 1 f.e f.F.ps.length])).length=H.length+1:=by simp
 have b4:Xh ((H++[MO.row 5 1 ((f.F.all++b).map (MV.int .u8))]).set f.j (.cells 98 [.slc H.length 1 0 (f.F.all++b).length,.int .i64 (f.F.s.length:Int),Jt 1 f.e f.F.ps.length])) 3 1 f.e ((Wz f.F.s.length f.F.ps).map (.int .i64)):=by
  refine YT h.e fun r he this=>b3 r _ this rfl ?_
  rintro rfl
  rw[h.c] at this;cases this
 generalize (H++[MO.row 5 1 ((f.F.all++b).map (MV.int .u8))]).set f.j (.cells 98 [.slc H.length 1 0 (f.F.all++b).length,.int .i64 (f.F.s.length:Int),Jt 1 f.e f.F.ps.length])=H1 at*
 have hv:Jt 1 f.e f.F.ps.length= .nils∨∃r,Jt 1 f.e f.F.ps.length= .slc r 1 0 (Jt 1 f.e f.F.ps.length).len:=by
  cases f.e with
  |none=>exact .inl rfl
  |some r=>exact .inr ⟨r,rfl⟩
 have hve:∀r,Jt 1 f.e f.F.ps.length= .slc r 1 0 (Jt 1 f.e f.F.ps.length).len→f.e=some r:=by
  intro r hr
  cases he:f.e with
  |none=>rw[he] at hr;cases hr
  |some r'=>rw[he] at hr;simp only[Jt,MV.slc.injEq] at hr;rw[hr.1]
 have keep:∀x o,AH.at H1 x=o→o.live=true→f.e≠some x→AH.at (AH.app H1 (Jt 1 f.e f.F.ps.length) 3 1 ([((f.F.all++b).length:Int)].map (MV.int .i64))) x=o:=fun x o hx hl hn=>
  Jlw hx hl (fun r hr e=>hn (by rw[hve r hr,e])) hv
 have hne:f.e≠some f.j:=fun e=>by
  rw[e] at b4
  rw[show AH.at H1 f.j=_ from b4] at b1;cases b1
 have hne2:f.e≠some H.length:=fun e=>by
  rw[e] at b4
  rw[show AH.at H1 H.length=_ from b4] at b2;cases b2
 have c1:=keep _ _ b1 rfl hne
 have c2:=keep _ _ b2 rfl hne2
 have c3:AH.at (AH.app H1 (Jt 1 f.e f.F.ps.length) 3 1 ([((f.F.all++b).length:Int)].map (MV.int .i64))) H1.length= .row 3 1 (AH.view H1 (Jt 1 f.e f.F.ps.length)++[((f.F.all++b).length:Int)].map (MV.int .i64)):=Jll
 rw[Jgg b4 (by rw[List.length_map,Wo];omega)] at c3
 have cl:(AH.app H1 (Jt 1 f.e f.F.ps.length) 3 1 ([((f.F.all++b).length:Int)].map (MV.int .i64))).length=H.length+2:=by simp[AH.app,JhS,bl]
 refine⟨?_,b1,b2,b4,c1,bl⟩
 generalize AH.app H1 (Jt 1 f.e f.F.ps.length) 3 1 ([((f.F.all++b).length:Int)].map (MV.int .i64))=H2 at*
 have w2:AH.wr H2 (.ptr f.j 0) 2 [.slc (H.length+1) 1 0 (f.F.ps.length+1)]=H2.set f.j (.cells 98 [.slc H.length 1 0 (f.F.all++b).length,.int .i64 (f.F.s.length:Int),.slc (H.length+1) 1 0 (f.F.ps.length+1)]):=wrC c1 2 _
 rw[w2]
 have hall:(⟨f.F.s,f.F.ps++[b]⟩:Fl).all=f.F.all++b:=by simp[Fl.all]
 refine⟨fun x o hx hl hn=> ?_,by rw[List.length_set];omega,⟨?_,?_,?_,fun e=>by cases e⟩,rfl,fun x hx=> ?_⟩
 ·have h1:x≠f.j:=fun e=>hn (by rw[e];exact List.mem_cons_self ..)
  refine(Vg (Ne.symm h1)).trans (keep x o (b3 x o hx hl h1) hl fun e=>hn (by simp[Fs.objs,e]))
 ·show AH.at _ f.j=_
  rw[VS c1 rfl,hall];simp[Jt]
 ·show AH.at _ H.length=_
  rw[hall];exact(Vg (by omega)).trans c2
 ·show AH.at _ (H.length+1)=_
  refine(Vg (by omega)).trans ?_
  rw[←bl,c3]
  simp only[JcS,Wz,List.map_append,List.map_cons,List.map_nil]
  congr 4
  simp[Fl.all];omega
 ·simp only[Fs.objs,List.mem_cons,List.mem_append,Option.mem_toList,Option.some.injEq] at hx
  rcases hx with rfl|hx|hx
  ·exact .inl (List.mem_cons_self ..)
  ·exact .inr (by omega)
  ·exact .inr (by omega)
end Go.Dk
/- Each function of a disk does what is said of plain data. -/
namespace Go.Dk
open Go Go.Gw Go.Proofs.Se.D
set_option linter.unusedSimpArgs false
set_option linter.unusedVariables false
def Jx (c:Nat) (H:AH) (d:MV) (A:Dk):Prop:=∃i m js,d= .ptr i 0∧DiskS c H i m js A
theorem Jeo {c:Nat} {H:AH} {i m:Nat} {js:List (Int×Nat)} {A:Dk} (h:DiskS c H i m js A) (n:Int):
  (A.off=true→JU H (.ptr i 0) n=some (.nilp,8))∧(A.off=false→WM A.fs n=none→JU H (.ptr i 0) n=some (.nilp,10))∧
  (A.off=false→∀F,WM A.fs n=some F→∃j,(n,j)∈js∧JU H (.ptr i 0) n=some (.ptr j 0,0)):=by
 obtain⟨L,a,h,hf,hj,ha,g⟩:=h
 have e:=JlE h n
 refine⟨fun ho=>by rw[e,if_pos ho],fun ho hg=> ?_,fun ho F hg=> ?_⟩
 ·rw[e,if_neg (by simp[ho])]
  rw[←hf,JbV,Option.map_eq_none_iff] at hg
  rw[hg]
 ·rw[←hf,JbV,Option.map_eq_some_iff] at hg
  obtain⟨f,hg,rfl⟩:=hg
  refine⟨f.j,by rw[←hj];exact List.mem_map.2 ⟨_,VL hg,rfl⟩,?_⟩
  rw[e,if_neg (by simp[ho]),hg]
theorem Jeq {H:AH} {i m:Nat} {js:List (Int×Nat)} {A:Dk} {L:List (Int×Fs)} {a:MV} (h:DiskIn H i m L A.lim A.off A.life a) (hf:Ja8 L=A.fs) (hj:L.map (fun p=>(p.1,p.2.j))=js)
  {n:Int} {j:Nat} (hm:(n,j)∈js) {F:Fl} (hg:WM A.fs n=some F):∃f,(n,f)∈L∧f.j=j∧f.F=F:=by
 rw[←hj] at hm
 obtain⟨⟨n',f⟩,hp,he⟩:=List.mem_map.1 hm
 simp only[Prod.mk.injEq] at he
 obtain⟨rfl,rfl⟩:=he
 refine⟨f,hp,rfl,?_⟩
 rw[←hf,JbV,JkY h.nd hp] at hg
 simpa using hg
section
variable {c:Nat} {H:AH} {d:MV} {A:Dk}
theorem Jhx (h:Jx c H d A) (n:Int):Wh H d n=some (A.read n):=by
 obtain⟨i,m,js,rfl,h⟩:=h
 obtain⟨f1,f2,f3⟩:=Jeo h n
 unfold Wh Dk.read
 by_cases ho:A.off=true
 ·rw[f1 ho,if_pos ho];rfl
 ·have ho:A.off=false:=by simpa using ho
  rw[if_neg (by simp[ho])]
  cases hg:WM A.fs n with
  |none=>rw[f2 ho hg];rfl
  |some F=>
   obtain⟨j,hj,e⟩:=f3 ho F hg
   obtain⟨L,a,h,hf,hjs,ha,g⟩:=h
   obtain⟨f,hm,rfl,rfl⟩:=Jeq h hf hjs hj hg
   have hff:=h.f _ hm
   simp only at hff
   have e3:AH.rd H (.ptr f.j 0) 0=Jt 1 f.b f.F.all.length:=rdC hff.c 0
   obtain⟨e4,e5⟩:=JfE hff.b
   have hl:=JbH (VL hg)
   have h1:=g.us
   have h2:=g.lim
   rw[e]
   refine(Option.bind_some _ _).trans ?_
   simp only[okC hff.c,MV.isP,e3,e4,e5,List.length_cons,List.length_nil,Nat.reduceAdd,Nat.reduceLeDiff,Nat.ble_eq,and_self,if_true,Jdy _ (show f.F.all.length≤1000000 by omega),Option.bind_some,bne_self_eq_false,Bool.false_eq_true,if_false]
theorem Jal (h:Jx c H d A) (n:Int):VI H d n=some (A.size n):=by
 obtain⟨i,m,js,rfl,h⟩:=h
 exact JlI h n
theorem Jay (h:Jx c H d A):Vu H d=some (Wb A.fs):=by
 obtain⟨i,m,js,rfl,h⟩:=h
 exact Jdt h
theorem Jbg (h:Jx c H d A):Vb H d=some A.off:=by
 obtain⟨i,m,js,rfl,h⟩:=h
 exact Jl2 h
theorem Jjl (h:Jx c H d A):∃H',Vs H d=some H'∧Jx c H' d A.start:=by
 obtain⟨i,m,js,rfl,h⟩:=h
 obtain⟨H',h1,h2⟩:=Jkg h
 exact⟨H',h1,i,m,js,rfl,h2⟩
theorem Ji3 (h:Jx c H d A) (keep:List Bool) (torn at_:Int):∃H',Vh H d keep torn at_=some H'∧Jx c H' d (A.crash keep torn at_):=by
 obtain⟨i,m,js,rfl,h⟩:=h
 obtain⟨H',h1,h2⟩:=Jjj h keep torn at_
 exact⟨H',h1,i,m,js,rfl,h2⟩
theorem Jk2 (h:Jx c H d A) (n:Int):∃H',VV H d n=some ((A.sync n).1,H')∧Jx c H' d (A.sync n).2:=by
 obtain⟨i,m,js,rfl,h⟩:=h
 obtain⟨f1,f2,f3⟩:=Jeo h n
 unfold VV Dk.sync
 by_cases ho:A.off=true
 ·rw[f1 ho,if_pos ho];exact⟨H,rfl,i,m,js,rfl,h⟩
 ·have ho:A.off=false:=by simpa using ho
  rw[if_neg (by simp[ho])]
  cases hg:WM A.fs n with
  |none=>rw[f2 ho hg];exact⟨H,rfl,i,m,js,rfl,h⟩
  | some F=>
   obtain⟨j,hj,e⟩:=f3 ho F hg
   obtain⟨H1,s1,s2⟩:=JaK h
   rw[e]
   simp only[Option.bind_some,bne_self_eq_false,Bool.false_eq_true,if_false,s1,Dk.andThen]
   by_cases hz:A.spend.1=0
   ·obtain⟨r,hr⟩:=Qz hz
    rw[hr] at s2
    obtain⟨L,a,h,hf,hjs,ha,g⟩:=s2
    obtain⟨f,hm,rfl,rfl⟩:=Jeq h hf hjs hj hg
    have hff:=h.f _ hm
    obtain⟨H2,f',t1,t2,t3⟩:=JbX hff
    simp only[hz,hr,beq_self_eq_true,if_true,t1,Option.bind_some]
    refine⟨H2,rfl,i,m,js,rfl,?_⟩
    rw[←t3]
    have hl:=JbH (VL hg)
    refine JkP h hf hjs ha hm t2 (Jdl g (Nat.le_refl _) g.cle (VL hg) ?_ ?_)
    ·rw[t3];simp[Fl.settle]
    ·rw[t3,show f.F.settle.all=f.F.all by simp[Fl.settle,Fl.all]]
     have:=g.us
     simp only at*
     omega
   ·have hz':(A.spend.1==0)=false:=by simpa using hz
    simp only[hz',if_neg hz,Bool.false_eq_true,if_false,Option.bind_some]
    exact⟨H1,rfl,i,m,js,rfl,s2⟩
theorem JlG {H:AH} {f:Fs} (h:f.At H) (b:List Int):∃H1,AH.wr (H++[MO.row 5 1 (b.map (MV.int .u8))]) (.ptr f.j 0) 0 [.slc H.length 1 0 b.length]=H1∧∃H' f',JN H1 (.ptr f.j 0)=some H'∧FUpd H H' f f'∧f'.F=⟨b,[]⟩:=by
 have a1:AH.at (H++[MO.row 5 1 (b.map (MV.int .u8))]) f.j=_:=YO h.c rfl
 have w1:AH.wr (H++[MO.row 5 1 (b.map (MV.int .u8))]) (.ptr f.j 0) 0 [.slc H.length 1 0 b.length]=(H++[MO.row 5 1 (b.map (MV.int .u8))]).set f.j (.cells 98 [.slc H.length 1 0 b.length,.int .i64 (f.F.s.length:Int),Jt 1 f.e f.F.ps.length]):=wrC a1 0 _
 have hjl:=at_lt h.c rfl
 have b1:= @VS _ f.j _ (.cells 98 [.slc H.length 1 0 b.length,.int .i64 (f.F.s.length:Int),Jt 1 f.e f.F.ps.length]) a1 rfl
 have b2:AH.at ((H++[MO.row 5 1 (b.map (MV.int .u8))]).set f.j (.cells 98 [.slc H.length 1 0 b.length,.int .i64 (f.F.s.length:Int),Jt 1 f.e f.F.ps.length])) H.length= .row 5 1 (b.map (MV.int .u8)):=(Vg (by omega)).trans (Jb0 _ _)
 have b3:∀x o,AH.at H x=o→o.live=true→x≠f.j→AH.at ((H++[MO.row 5 1 (b.map (MV.int .u8))]).set f.j (.cells 98 [.slc H.length 1 0 b.length,.int .i64 (f.F.s.length:Int),Jt 1 f.e f.F.ps.length])) x=o:=fun x o hx hl hn=>(Vg (Ne.symm hn)).trans (YO hx hl)
 have bl:((H++[MO.row 5 1 (b.map (MV.int .u8))]).set f.j (.cells 98 [.slc H.length 1 0 b.length,.int .i64 (f.F.s.length:Int),Jt 1 f.e f.F.ps.length])).length=H.length+1:=by simp
 refine⟨_,w1,?_⟩
 generalize (H++[MO.row 5 1 (b.map (MV.int .u8))]).set f.j (.cells 98 [.slc H.length 1 0 b.length,.int .i64 (f.F.s.length:Int),Jt 1 f.e f.F.ps.length])=H1 at*
 have e1:AH.rd H1 (.ptr f.j 0) 0= .slc H.length 1 0 b.length:=rdC b1 0
 have e2:AH.wr H1 (.ptr f.j 0) 1 [.int .i64 (b.length:Int)]=H1.set f.j (.cells 98 [.slc H.length 1 0 b.length,.int .i64 (b.length:Int),Jt 1 f.e f.F.ps.length]):=wrC b1 1 _
 have e3:= @VS H1 f.j _ (.cells 98 [.slc H.length 1 0 b.length,.int .i64 (b.length:Int),Jt 1 f.e f.F.ps.length]) b1 rfl
 have e4:AH.wr (H1.set f.j (.cells 98 [.slc H.length 1 0 b.length,.int .i64 (b.length:Int),Jt 1 f.e f.F.ps.length])) (.ptr f.j 0) 2 [.nils]=H1.set f.j (.cells 98 [.slc H.length 1 0 b.length,.int .i64 (b.length:Int),.nils]):=(wrC e3 2 _).trans (List.set_set ..)
 have e5:AH.isRow H1 1 (.slc H.length 1 0 b.length)=true:=QH b2 _ _ (by simp)
 have e6:JN H1 (.ptr f.j 0)=some (H1.set f.j (.cells 98 [.slc H.length 1 0 b.length,.int .i64 (b.length:Int),.nils])):=by
  unfold JN
  simp only[okC b1,e1,e5,Ja7,e2,okC e3,e4,MV.isP,List.length_cons,List.length_nil,Nat.reduceAdd,Nat.reduceLeDiff,Nat.ble_eq,and_self,if_true]
 have hall:(⟨b,[]⟩:Fl).all=b:=by simp[Fl.all]
 refine⟨_,⟨f.j,some H.length,none,⟨b,[]⟩⟩,e6,⟨fun x o hx hl hn=> ?_,by rw[List.length_set];omega,⟨?_,?_,rfl,fun e=>by cases e⟩,rfl,fun x hx=> ?_⟩,rfl⟩
 ·have h1:x≠f.j:=fun e=>hn (by rw[e];exact List.mem_cons_self ..)
  exact(Vg (Ne.symm h1)).trans (b3 x o hx hl h1)
 ·show AH.at _ f.j=_
  rw[VS b1 rfl,hall];rfl
 ·show AH.at _ H.length=_
  rw[hall];exact(Vg (by omega)).trans b2
 ·simp only[Fs.objs,List.mem_cons,List.mem_append,Option.mem_toList,Option.some.injEq,Option.toList_none,List.not_mem_nil,or_false] at hx
  rcases hx with rfl|hx
  ·exact .inl (List.mem_cons_self ..)
  ·exact .inr (by omega)
theorem JkB (h:Jx c H d A) (n size:Int):∃H',Xl H d n size=some ((A.cut n size).1,H')∧Jx c H' d (A.cut n size).2:=by
 obtain⟨i,m,js,rfl,h⟩:=h
 obtain⟨f1,f2,f3⟩:=Jeo h n
 unfold Xl Dk.cut
 by_cases ho:A.off=true
 ·rw[f1 ho,if_pos ho];exact⟨H,rfl,i,m,js,rfl,h⟩
 ·have ho:A.off=false:=by simpa using ho
  rw[if_neg (by simp[ho])]
  cases hg:WM A.fs n with
  |none=>rw[f2 ho hg];exact⟨H,rfl,i,m,js,rfl,h⟩
  | some F=>
   obtain⟨j,hj,e⟩:=f3 ho F hg
   obtain⟨H1,s1,s2⟩:=JaK h
   rw[e]
   by_cases hs0:size<0
   ·simp only[Option.bind_some,bne_self_eq_false,Bool.false_eq_true,if_false,hs0,decide_true,if_true]
    exact⟨H,rfl,i,m,js,rfl,h⟩
   obtain⟨L,a,h',hf,hjs,ha,g⟩:=id h
   obtain⟨f,hm,rfl,rfl⟩:=Jeq h' hf hjs hj hg
   have hff:=h'.f _ hm
   simp only at hff
   have e3:AH.rd H (.ptr f.j 0) 0=Jt 1 f.b f.F.all.length:=rdC hff.c 0
   have e4:(Jt 1 f.b f.F.all.length).len=f.F.all.length:=Xw hff.b (by simp)
   have e5:AH.isRow H 1 (Jt 1 f.b f.F.all.length)=true:=WI hff.b (by simp)
   by_cases hs1:size>(f.F.all.length:Int)
   ·simp only[Option.bind_some,bne_self_eq_false,Bool.false_eq_true,if_false,hs0,decide_false,MV.isP,okC hff.c,e3,e4,e5,hs1,List.length_cons,List.length_nil,Nat.reduceAdd,Nat.reduceLeDiff,Nat.ble_eq,and_self,if_true,decide_true]
    exact⟨H,rfl,i,m,js,rfl,h⟩
   simp only[Option.bind_some,bne_self_eq_false,Bool.false_eq_true,if_false,hs0,decide_false,MV.isP,okC hff.c,e3,e4,e5,hs1,List.length_cons,List.length_nil,Nat.reduceAdd,Nat.reduceLeDiff,Nat.ble_eq,and_self,if_true,s1,Dk.andThen]
   by_cases hz:A.spend.1=0
   ·obtain⟨r,hr⟩:=Qz hz
    rw[hr] at s2
    obtain⟨L6,a6,h6,hf6,hjs6,ha6,g6⟩:=s2
    obtain⟨f6,hm6,hj6,hF6⟩:=Jeq h6 hf6 hjs6 hj hg
    have hff6:=h6.f _ hm6
    simp only at hff6
    have e6:AH.rd H1 (.ptr f.j 0) 0=Jt 1 f6.b f.F.all.length:=by rw[←hj6,←hF6];exact rdC hff6.c 0
    have e7:(Jt 1 f6.b f.F.all.length).len=f.F.all.length:=by rw[←hF6];exact Xw hff6.b (by simp)
    have e8:AH.isRow H1 1 (Jt 1 f6.b f.F.all.length)=true:=by rw[←hF6];exact WI hff6.b (by simp)
    have ok6:AH.ok H1 (.ptr f.j 0) 0 1=true:=by rw[←hj6,okC hff6.c];rfl
    obtain⟨e9,e10⟩:=Jex hff6.b 0 size.toNat (Nat.zero_le _) (by rw[hF6];omega)
    rw[hF6] at e9 e10
    rw[List.drop_zero] at e9
    have hl:=JbH (VL hg)
    have g1:=g.us
    have g2:=g.lim
    have hcl:=Jdy (f.F.all.take size.toNat) (by rw[List.length_take];omega)
    obtain⟨H2,w,H3,f3,t1,t2,t3⟩:=JlG hff6 (f.F.all.take size.toNat)
    rw[hj6] at w t1
    have c0:(0:Int)≤0∧(0:Int)≤size∧size≤(f.F.all.length:Int):=by omega
    have c1:(0:Int)≤size∧size≤(f.F.all.length:Int):=c0.2
    simp only[hz,hr,beq_self_eq_true,if_true,ok6,e6,e7,e8,Jmt,e9,e10,hcl,Option.bind_some,w,t1,c0,c1,and_self]
    refine⟨H3,rfl,i,m,js,rfl,?_⟩
    rw[←t3]
    refine JkP h6 hf6 hjs6 ha6 hm6 t2 (Jdl g6 (Nat.le_refl _) g6.cle (VL hg) ?_ ?_)
    ·rw[t3];simp
    ·rw[t3]
     simp only[Fl.all,List.flatten_nil,List.append_nil,List.length_take] at*
     omega
   ·have hz':(A.spend.1==0)=false:=by simpa using hz
    simp only[hz',if_neg hz,Bool.false_eq_true,if_false,Option.bind_some]
    exact⟨H1,rfl,i,m,js,rfl,s2⟩
theorem Jev (h:Jx c H d A) (n:Int) (b:List Int) (hb:b.length≤1000000) (hc:c<1000000):∃H',WA H d n b=some ((A.append n b).1,H')∧Jx (c+1) H' d (A.append n b).2:=by
 obtain⟨i,m,js,rfl,h⟩:=h
 have hm1:=h.mono (Nat.le_succ c) hc
 obtain⟨f1,f2,f3⟩:=Jeo h n
 have hus:=JlC h
 unfold WA Dk.append
 by_cases ho:A.off=true
 ·rw[f1 ho,if_pos ho];exact⟨H,rfl,i,m,js,rfl,hm1⟩
 ·have ho:A.off=false:=by simpa using ho
  rw[if_neg (by simp[ho])]
  cases hg:WM A.fs n with
  |none=>rw[f2 ho hg];exact⟨H,rfl,i,m,js,rfl,hm1⟩
  | some F=>
   obtain⟨j,hj,e⟩:=f3 ho F hg
   obtain⟨L,a,h',hf,hjs,ha,g⟩:=id h
   obtain⟨f,hm,rfl,rfl⟩:=Jeq h' hf hjs hj hg
   have hff:=h'.f _ hm
   simp only at hff
   have hl:=JbH (VL hg)
   have u0:=JfS A.fs
   have g1:=g.us
   have g2:=g.lim
   have g3:=g.cle
   have w1:IntKind.i64.wrap (WQ A.fs)=WQ A.fs:=JaP (by omega) (by omega)
   have w2:IntKind.i64.wrap (A.lim-WQ A.fs)=A.lim-WQ A.fs:=JaP (by omega) (by omega)
   have r0:AH.rd H (.ptr i 0) 0= .int .i64 A.lim:=rdC h'.d 0
   have e3:AH.rd H (.ptr f.j 0) 0=Jt 1 f.b f.F.all.length:=rdC hff.c 0
   obtain⟨e4,e5⟩:=JfE hff.b
   rw[e]
   by_cases hfull:(b.length:Int)>A.lim-WQ A.fs
   ·simp only[Option.bind_some,bne_self_eq_false,Bool.false_eq_true,if_false,okC h'.d,r0,MV.isP,MV.isI,MV.num,kc,Nat.beq_refl,List.length_cons,List.length_nil,Nat.reduceAdd,Nat.reduceLeDiff,Nat.ble_eq,and_self,if_true,hus,w1,w2,hfull,decide_true]
    exact⟨H,rfl,i,m,js,rfl,hm1⟩
   ·have hps:=g.ps _ (VL hg)
    simp only at hps
    have hcc:JC [f.F.all,b]=some (f.F.all++b):=by
     rw[JaN _ (by simp;omega) (by simp)];simp
    obtain⟨u,c1,c2,c3,c4,c5⟩:=JkS hff b
    generalize hH1:AH.wr (H++[MO.row 5 1 ((f.F.all++b).map (MV.int .u8))]) (.ptr f.j 0) 0 [.slc H.length 1 0 (f.F.all++b).length]=H1 at*
    have k0:AH.rd H1 (.ptr f.j 0) 0= .slc H.length 1 0 (f.F.all++b).length:=rdC c1 0
    have k2:AH.rd H1 (.ptr f.j 0) 2=Jt 1 f.e f.F.ps.length:=rdC c1 2
    have k3:AH.isRow H1 1 (.slc H.length 1 0 (f.F.all++b).length)=true:=QH c2 _ _ (by simp)
    have k4:AH.isEnd H1 3 1 (Jt 1 f.e f.F.ps.length)=true:=JkN c3 (by rw[List.length_map,Wo];omega)
    have k5:(Jt 1 f.e f.F.ps.length).len=f.F.ps.length:=Xw c3 (by rw[List.length_map,Wo])
    have k6:f.F.ps.length+1≤YJ:=by unfold YJ;omega
    have hS:DiskS (c+1) _ i m js {A with fs:=XN A.fs n ⟨f.F.s,f.F.ps++[b]⟩}:=JkP h' hf hjs ha hm u (Jdl g (Nat.le_succ c) hc (VL hg) (by simp;omega) (by
     simp only[Fl.all,List.flatten_append,List.length_append,List.flatten_cons,List.flatten_nil,List.append_nil] at*
     omega))
    obtain⟨H3,s1,s2⟩:=JaK hS
    simp only[if_neg hfull]
    refine⟨H3,?_,i,m,js,rfl,s2⟩
    refine(Option.bind_some _ _).trans ?_
    simp only[Option.bind_some,bne_self_eq_false,Bool.false_eq_true,if_false,okC h'.d,r0,MV.isP,MV.isI,MV.num,kc,Nat.beq_refl,List.length_cons,List.length_nil,Nat.reduceAdd,Nat.reduceLeDiff,Nat.ble_eq,and_self,if_true,hus,w1,w2,hfull,decide_false,okC hff.c,e3,e4,e5,hcc,
     hH1,okC c1,k0,k2,k3,k4,k5,k6,Ja7,okC c4,c5,s1]
end
end Go.Dk
/- A disk is begun; files are made, removed; a crash is armed. -/
namespace Go.Dk
open Go Go.Gw Go.Proofs.Se.D
set_option linter.unusedSimpArgs false
set_option linter.unusedVariables false
theorem JjH {l:List (Int×MV)} {n:Int} (h:∀p∈l,p.1≠n) (x:MV):Jha l n x=l++[(n,x)]:=by
 induction l with
 |nil=>rfl
 |cons p r ih=>
  have:p.1≠n:=h p (by simp)
  simp only[Jha,if_neg this,List.cons_append]
  rw[ih fun p hp=>h p (by simp[hp])]
def Dk.new (lim:Int):Dk:=⟨lim,[],false,0,none⟩
theorem Jkq (lim:Int) (h1:1≤lim) (h2:lim≤131072):∃H,QB lim=some (.ptr 1 0,0,H)∧Jx 0 H (.ptr 1 0) (Dk.new lim):=by
 refine⟨[MO.map [],MO.cells 73 [MV.int .i64 lim,MV.map 0,MV.bool false,MV.int .i64 0,MV.nilp]],?_,1,0,[],rfl,[],.nilp,⟨rfl,rfl,by simp,by simp,by simp⟩,rfl,rfl,rfl,⟨by omega,by simp[Dk.new],by simp[Dk.new],by simp[Dk.new,WQ];omega,h2,by simp[Dk.new]⟩⟩
 unfold QB
 rw[if_neg (by simpa using h1),if_neg (by simp;omega)]
 rfl
section
variable {c:Nat} {H:AH} {d:MV} {A:Dk}
theorem Jj0 {c:Nat} {A:Dk} (g:Good c A) {n:Int} (h0:0≤n) (h1:n<64) (hn:n∉A.fs.map (·.1)):Good c {A with fs:=A.fs++[(n,⟨[],[]⟩)]}:=by
 refine⟨g.cle,fun x hx=> ?_,fun p hp=> ?_,?_,g.lim,?_⟩
 ·simp only[List.map_append,List.map_cons,List.map_nil,List.mem_append,List.mem_singleton] at hx
  rcases hx with hx|rfl
  ·exact g.rg x hx
  ·exact⟨h0,h1⟩
 ·simp only[List.mem_append,List.mem_singleton] at hp
  rcases hp with hp|rfl
  ·exact g.ps p hp
  ·simp
 ·have:=g.us
  simpa[WQ,Fl.all] using this
 ·rw[List.map_append]
  refine List.nodup_append.2 ⟨g.nd,by simp,fun a ha b hb=> ?_⟩
  simp only[List.map_cons,List.map_nil,List.mem_singleton] at hb
  rintro rfl
  exact hn (hb▸ha)
theorem Jd3 (h:Jx c H d A) (n:Int):∃H',JS H d n=some ((A.create n).1,H')∧Jx c H' d (A.create n).2:=by
 obtain⟨i,m,js,rfl,hS⟩:=h
 obtain⟨L,a,h,hf,hj,ha,g⟩:=id hS
 have e1:AH.rd H (.ptr i 0) 1= .map m:=rdC h.d 1
 have e2:AH.rd H (.ptr i 0) 2= .bool A.off:=rdC h.d 2
 unfold Dk.create
 by_cases ho:A.off=true
 ·rw[if_pos ho]
  refine⟨H,?_,i,m,js,rfl,hS⟩
  simp only[JS,okC h.d,e2,MV.isP,MV.isB,MV.tr,ho,List.length_cons,List.length_nil,Nat.reduceAdd,Nat.reduceLeDiff,Nat.ble_eq,and_self,if_true]
 have ho:A.off=false:=by simpa using ho
 rw[if_neg (by simp[ho])]
 by_cases h0:n<0
 ·rw[if_pos h0]
  refine⟨H,?_,i,m,js,rfl,hS⟩
  simp only[JS,okC h.d,e2,MV.isP,MV.isB,MV.tr,ho,h0,decide_true,List.length_cons,List.length_nil,Nat.reduceAdd,Nat.reduceLeDiff,Nat.ble_eq,and_self,if_true,if_false,Bool.false_eq_true]
 rw[if_neg h0]
 by_cases h1:n≥64
 ·rw[if_pos h1]
  refine⟨H,?_,i,m,js,rfl,hS⟩
  simp only[JS,okC h.d,e2,MV.isP,MV.isB,MV.tr,ho,h0,h1,decide_true,decide_false,List.length_cons,List.length_nil,Nat.reduceAdd,Nat.reduceLeDiff,Nat.ble_eq,and_self,if_true,if_false,Bool.false_eq_true]
 rw[if_neg h1]
 cases hg:WM A.fs n with
 |some F=>
  simp only[Option.isSome_some,if_true]
  refine⟨H,?_,i,m,js,rfl,hS⟩
  rw[←hf,JbV,Option.map_eq_some_iff] at hg
  obtain⟨f,hg,rfl⟩:=hg
  have hm:=VL hg
  have hl:=Qu h.nd hm
  have hc:=okC (h.f _ hm).c
  simp only at hc
  simp only[JS,okC h.d,hc,e1,e2,YA h.m,lookM' h.m,hl,MV.isP,MV.isN,MV.isB,MV.tr,ho,h0,h1,decide_true,decide_false,List.length_cons,List.length_nil,Nat.reduceAdd,Nat.reduceLeDiff,Nat.ble_eq,and_self,if_true,if_false,or_true,Bool.false_eq_true,Bool.not_false]
 | none=>
  simp only[Option.isSome_none,Bool.false_eq_true,if_false,Dk.andThen]
  have hgn:=YB hg
  have hl:QW (L.map fun p=>(p.1,MV.ptr p.2.j 0)) n= .nilp:=JaV (by rw[←YF,hf];exact hgn)
  obtain⟨H1,s1,s2⟩:=JaK hS
  by_cases hz:A.spend.1=0
  ·obtain⟨r,hr⟩:=Qz hz
   rw[hr] at s2
   obtain⟨L6,a6,h6,hf6,hj6,ha6,g6⟩:=s2
   simp only at h6 hf6 ha6
   have hn6:n∉L6.map (·.1):=by rw[←YF,hf6];exact hgn
   have b1:∀x o,AH.at H1 x=o→o.live=true→AH.at (H1++[MO.cells 98 [MV.nils,MV.int .i64 (0:Int),MV.nils]]) x=o:=fun x o hx hl=>YO hx hl
   have b2:AH.at (H1++[MO.cells 98 [MV.nils,MV.int .i64 (0:Int),MV.nils]]) H1.length= .cells 98 [MV.nils,MV.int .i64 (0:Int),MV.nils]:=Jb0 _ _
   generalize hH2:H1++[MO.cells 98 [MV.nils,MV.int .i64 (0:Int),MV.nils]]=H2 at*
   have m2:=b1 m _ h6.m rfl
   have e6:AH.rd H1 (.ptr i 0) 1= .map m:=rdC h6.d 1
   have w:AH.mset H2 (.map m) n (.ptr H1.length 0)=H2.set m (.map ((L6++[(n,(⟨H1.length,none,none,⟨[],[]⟩⟩:Fs))]).map fun p=>(p.1,MV.ptr p.2.j 0))):=by
    rw[JmZ m2,JjH (fun p hp=>by
     obtain⟨q,hq,rfl⟩:=List.mem_map.1 hp
     rintro rfl
     exact hn6 (List.mem_map.2 ⟨q,hq,rfl⟩))]
    simp
   have hml:=at_lt h6.m rfl
   have kk:∀x o,AH.at H1 x=o→o.live=true→(∀l,o≠ .map l)→AH.at (H2.set m (.map ((L6++[(n,(⟨H1.length,none,none,⟨[],[]⟩⟩:Fs))]).map fun p=>(p.1,MV.ptr p.2.j 0)))) x=o:=fun x o hx hl hn=>(Vg (by
     rintro rfl
     exact hn _ (hx.symm.trans h6.m))).trans (b1 x o hx hl)
   have kf:∀p∈L6,p.2.At (H2.set m (.map ((L6++[(n,(⟨H1.length,none,none,⟨[],[]⟩⟩:Fs))]).map fun p=>(p.1,MV.ptr p.2.j 0)))):=fun p hp=>by
    have hp':=h6.f p hp
    refine⟨kk _ _ hp'.c rfl (fun _=>by simp),YT hp'.b fun r _ e=>kk r _ e rfl (fun _=>by simp),YT hp'.e fun r _ e=>kk r _ e rfl (fun _=>by simp),hp'.n⟩
   refine⟨H2.set m (.map ((L6++[(n,(⟨H1.length,none,none,⟨[],[]⟩⟩:Fs))]).map fun p=>(p.1,MV.ptr p.2.j 0))),?_,i,m,_,rfl,L6++[(n,⟨H1.length,none,none,⟨[],[]⟩⟩)],a6,⟨?_,VS m2 rfl,fun p hp=> ?_,?_,fun p hp q hq hne x hx hx'=> ?_⟩,?_,rfl,?_,?_⟩
   ·simp only[JS,okC h.d,e1,e2,YA h.m,lookM' h.m,hl,MV.isP,MV.isN,MV.isB,MV.tr,ho,h0,h1,decide_true,decide_false,List.length_cons,List.length_nil,Nat.reduceAdd,Nat.reduceLeDiff,Nat.ble_eq,and_self,if_true,if_false,true_or,Bool.false_eq_true,Bool.not_true,s1,Option.bind_some,hz,beq_self_eq_true,okC h6.d,e6,hH2,YA m2,w]
   ·simp only[hz,hr,if_true]
    exact kk i _ h6.d rfl (fun _=>by simp)
   ·simp only[List.mem_append,List.mem_singleton] at hp
    rcases hp with hp|rfl
    ·exact kf p hp
    ·exact⟨(Vg (by show m≠H1.length;omega)).trans b2,rfl,rfl,fun _=>⟨rfl,rfl⟩⟩
   ·rw[List.map_append]
    refine List.nodup_append.2 ⟨h6.nd,by simp,fun a ha b hb=> ?_⟩
    simp only[List.map_cons,List.map_nil,List.mem_singleton] at hb
    rintro rfl
    exact hn6 (hb▸ha)
   ·have fresh:∀q∈L6,∀x∈q.2.objs,x<H1.length:=fun q hq x hx=>WN ((h6.f q hq).live hx)
    simp only[List.mem_append,List.mem_singleton] at hp hq
    rcases hp with hp|rfl<;>rcases hq with hq|rfl
    ·exact h6.ap p hp q hq hne x hx hx'
    ·have:=fresh p hp x hx
     simp[Fs.objs] at hx';omega
    ·have:=fresh q hq x hx'
     simp[Fs.objs] at hx;omega
    ·exact hne rfl
   ·simp only[hz,hr,if_true]
    rw[←hf6];simp[Ja8]
   ·simp only[hz,hr,if_true]
    rcases r with _|⟨n',keep,torn,at_⟩
    ·exact ha6
    ·obtain⟨t,x,h1,h2,h3⟩:=ha6
     exact⟨t,x,h1,kk t _ h2 rfl (fun _=>by simp),YT h3 fun r _ e=>kk r _ e rfl (fun _=>by simp)⟩
   ·simp only[hz,hr,if_true]
    exact Jj0 g6 (by omega) (by omega) hgn
  ·have hz':(A.spend.1==0)=false:=by simpa using hz
   simp only[if_neg hz]
   refine⟨H1,?_,i,m,js,rfl,s2⟩
   simp only[JS,okC h.d,e1,e2,YA h.m,lookM' h.m,hl,MV.isP,MV.isN,MV.isB,MV.tr,ho,h0,h1,decide_true,decide_false,List.length_cons,List.length_nil,Nat.reduceAdd,Nat.reduceLeDiff,Nat.ble_eq,and_self,if_true,if_false,true_or,Bool.false_eq_true,Bool.not_true,s1,Option.bind_some,hz']
theorem Jfq {L:List (Int×Fs)} (h:(L.map (·.1)).Nodup) (n:Int):Jgq (L.map fun p=>(p.1,MV.ptr p.2.j 0)) n=(L.filter fun p=> !(p.1==n)).map fun p=>(p.1,MV.ptr p.2.j 0):=by
 induction L with
 |nil=>rfl
 | cons p L ih=>
  simp only[List.map_cons,List.nodup_cons] at h
  simp only[List.map_cons,Jgq]
  by_cases hp:p.1=n
  ·have:L.filter (fun p=> !(p.1==n))=L:=List.filter_eq_self.2 fun q hq=>by
    have:q.1≠n:=fun e=>h.1 (by rw[hp,←e];exact List.mem_map.2 ⟨q,hq,rfl⟩)
    simpa using this
   simp only[List.filter_cons,hp,beq_self_eq_true,Bool.not_true,Bool.false_eq_true,if_false,if_true,this]
  ·have hb:(p.1==n)=false:=by simpa using hp
   simp only[if_neg hp,List.filter_cons,hb,Bool.not_false,if_true,List.map_cons,ih h.2]
theorem Je1 (fs:List (Int×Fl)) (q:Int×Fl→Bool):WQ (fs.filter q)≤WQ fs:=by
 induction fs with
 |nil=>simp
 |cons p fs ih=>
  simp only[List.filter_cons]
  split
  ·simp only[WQ,List.map_cons,List.sum_cons] at*;omega
  ·simp only[WQ,List.map_cons,List.sum_cons] at*;omega
theorem JhZ (h:Jx c H d A) (n:Int):∃H',Wx H d n=some ((A.remove n).1,H')∧Jx c H' d (A.remove n).2:=by
 obtain⟨i,m,js,rfl,h⟩:=h
 obtain⟨f1,f2,f3⟩:=Jeo h n
 unfold Wx Dk.remove
 by_cases ho:A.off=true
 ·rw[f1 ho,if_pos ho];exact⟨H,rfl,i,m,js,rfl,h⟩
 ·have ho:A.off=false:=by simpa using ho
  rw[if_neg (by simp[ho])]
  cases hg:WM A.fs n with
  |none=>rw[f2 ho hg];exact⟨H,rfl,i,m,js,rfl,h⟩
  | some F=>
   obtain⟨j,hj,e⟩:=f3 ho F hg
   obtain⟨H1,s1,s2⟩:=JaK h
   rw[e]
   simp only[Option.bind_some,bne_self_eq_false,Bool.false_eq_true,if_false,s1,Dk.andThen]
   by_cases hz:A.spend.1=0
   ·obtain⟨r,hr⟩:=Qz hz
    rw[hr] at s2
    obtain⟨L,a,h,hf,hjs,ha,g⟩:=s2
    simp only at h hf ha
    have e6:AH.rd H1 (.ptr i 0) 1= .map m:=rdC h.d 1
    have w:AH.mdel H1 (.map m) n=H1.set m (.map ((L.filter fun p=> !(p.1==n)).map fun p=>(p.1,MV.ptr p.2.j 0))):=by rw[JmW h.m,Jfq h.nd]
    have kk:∀x o,AH.at H1 x=o→o.live=true→(∀l,o≠ .map l)→AH.at (H1.set m (.map ((L.filter fun p=> !(p.1==n)).map fun p=>(p.1,MV.ptr p.2.j 0)))) x=o:=fun x o hx hl hn=>(Vg (by
     rintro rfl
     exact hn _ (hx.symm.trans h.m))).trans hx
    simp only[hz,hr,beq_self_eq_true,if_true,MV.isP,okC h.d,e6,YA h.m,w,List.length_cons,List.length_nil,Nat.reduceAdd,Nat.reduceLeDiff,Nat.ble_eq,and_self,Option.bind_some]
    refine⟨_,rfl,i,m,_,rfl,L.filter (fun p=> !(p.1==n)),a,⟨kk i _ h.d rfl (fun _=>by simp),VS h.m rfl,fun p hp=> ?_,?_,fun p hp q hq=>h.ap p (List.mem_filter.1 hp).1 q (List.mem_filter.1 hq).1⟩,?_,rfl,?_,?_⟩
    ·have hp':=h.f p (List.mem_filter.1 hp).1
     exact⟨kk _ _ hp'.c rfl (fun _=>by simp),YT hp'.b fun r _ e=>kk r _ e rfl (fun _=>by simp),YT hp'.e fun r _ e=>kk r _ e rfl (fun _=>by simp),hp'.n⟩
    ·exact h.nd.sublist (List.Sublist.map _ List.filter_sublist)
    ·simp only[Ja8]
     rw[←hf,Ja8,List.filter_map]
     rfl
    ·rcases r with _|⟨n',keep,torn,at_⟩
     ·exact ha
     ·obtain⟨t,x,h1,h2,h3⟩:=ha
      exact⟨t,x,h1,kk t _ h2 rfl (fun _=>by simp),YT h3 fun r _ e=>kk r _ e rfl (fun _=>by simp)⟩
    ·have sub:(A.fs.filter fun p=> !(p.1==n)).Sublist A.fs:=List.filter_sublist
     exact⟨g.cle,fun x hx=>g.rg x ((sub.map _).subset hx),fun p hp=>g.ps p (sub.subset hp),Int.le_trans (Je1 _ _) g.us,g.lim,g.nd.sublist (sub.map _)⟩
   ·have hz':(A.spend.1==0)=false:=by simpa using hz
    simp only[hz',if_neg hz,Bool.false_eq_true,if_false,Option.bind_some]
    exact⟨H1,rfl,i,m,js,rfl,s2⟩
end
end Go.Dk
/- A disk that is on, with nothing armed: what each function does; one byte is kept. -/
namespace Go.Dk
open Go Go.Gw Go.Proofs.Se.D
set_option linter.unusedSimpArgs false
set_option linter.unusedVariables false
theorem Ji7 (a:List Int) (ha:a.length≤1000000000):∀(d i:Nat),i+d=a.length→JW a a (d+1) (i:Int)=some (.inl ()):=by
 intro d
 induction d with
 |zero=>intro i hi;rw[JW,if_neg (by simp;omega)]
 |succ d ih=>
  intro i hi
  have e:IntKind.i64.wrap ((i:Int)+1)=((i+1:Nat):Int):=by rw[JaP (by omega) (by omega)];omega
  rw[JW,if_pos (by simp;omega),if_pos (by omega),if_pos (by omega),if_neg (by simp),e]
  exact ih (i+1) (by omega)
theorem Jc4 (a:List Int) (ha:a.length≤1000000000):Wp a a=some true:=by
 unfold Wp
 rw[if_neg (by simp),show ((a.length:Int)- 0).toNat+1=a.length+1 by omega]
 have:=Ji7 a ha a.length 0 (by omega)
 rw[show ((0:Nat):Int)=0 from rfl] at this
 rw[this];rfl
abbrev On (lim:Int) (fs:List (Int×Fl)) (life:Int):Dk:=⟨lim,fs,false,life,none⟩
section
variable {lim life:Int} {fs:List (Int×Fl)} {n:Int}
theorem JjJ:(On lim fs life).spend=(0,On lim fs life):=rfl
theorem QP (g:Dk→Dk):(On lim fs life).andThen g=(0,g (On lim fs life)):=by simp only[Dk.andThen,JjJ,if_true]
theorem JdR (h0:0≤n) (h1:n<64) (hn:WM fs n=none):(On lim fs life).create n=(0,On lim (fs++[(n,⟨[],[]⟩)]) life):=by
 unfold Dk.create
 rw[if_neg (by simp),if_neg (by omega),if_neg (by omega)]
 simp only[hn,Option.isSome_none,Bool.false_eq_true,if_false,QP]
theorem JdT {f:Fl} (hn:WM fs n=some f) (b:List Int) (hb:(b.length:Int)≤lim-WQ fs):(On lim fs life).append n b=(0,On lim (XN fs n ⟨f.s,f.ps++[b]⟩) life):=by
 unfold Dk.append
 rw[if_neg (by simp)]
 simp only[hn]
 rw[if_neg (by omega)]
 rfl
theorem Jlg {f:Fl} (hn:WM fs n=some f):(On lim fs life).sync n=(0,On lim (XN fs n f.settle) life):=by
 unfold Dk.sync
 rw[if_neg (by simp)]
 simp only[hn,QP]
theorem Jkk {f:Fl} (hn:WM fs n=some f) (m:Nat) (hm:m≤f.all.length):(On lim fs life).cut n (m:Int)=(0,On lim (XN fs n ⟨f.all.take m,[]⟩) life):=by
 unfold Dk.cut
 rw[if_neg (by simp)]
 simp only[hn]
 rw[if_neg (by omega),if_neg (by omega),QP]
 rfl
theorem Jim {f:Fl} (hn:WM fs n=some f):(On lim fs life).remove n=(0,On lim (fs.filter fun p=> !(p.1==n)) life):=by
 unfold Dk.remove
 rw[if_neg (by simp)]
 simp only[hn,QP]
theorem JkJ {f:Fl} (hn:WM fs n=some f):(On lim fs life).read n=(f.all,0):=by
 unfold Dk.read
 rw[if_neg (by simp)]
 simp only[hn]
theorem Ja4 {f:Fl} (hn:WM fs n=some f):(On lim fs life).size n=(f.all.length:Int):=by
 unfold Dk.size
 simp only[hn]
theorem Ji1 (keep:List Bool) (torn at_:Int):((On lim fs life).crash keep torn at_).start=On lim (WG keep torn at_ (Wb fs) 0 fs) (IntKind.i64.wrap (life+1)):=rfl
end
theorem Yy (n:Int) (f g:Fl):XN [(n,f)] n g=[(n,g)]:=by simp[XN]
theorem Ji2 (n:Int) (f:Fl):Wb [(n,f)]=[n]:=by simp[Wb]
theorem Jht (keep:List Bool) (torn at_:Int) (n:Int) (f:Fl):WG keep torn at_ (Wb [(n,f)]) 0 [(n,f)]=[(n,f.crash keep torn at_ 0)]:=by simp[Ji2,WG]
theorem JiP (f:Fl) (b:List Int):(⟨f.s,f.ps++[b]⟩:Fl).all=f.all++b:=by simp[Fl.all]
end Go.Dk

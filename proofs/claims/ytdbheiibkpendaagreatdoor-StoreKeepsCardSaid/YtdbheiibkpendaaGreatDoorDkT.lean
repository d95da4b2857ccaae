/- DiskFiles. -/
import Derived.Test.YtdbheiibkpendaaGreatDoorMDkA
namespace Go.Dk
open Go Go.Gw Go.Proofs.Se.D
set_option linter.unusedSimpArgs false
set_option linter.unusedVariables false
theorem YW {fs:List (Int×Fl)} {n:Int}:(WM fs n).isSome=true↔n∈fs.map (·.1):=by
 constructor
 ·intro h
  obtain⟨f,hf⟩:=Option.isSome_iff_exists.1 h
  exact List.mem_map.2 ⟨_,VL hf,rfl⟩
 ·intro h
  cases hg:WM fs n with
  |none=>exact absurd h (YB hg)
  |some f=>rfl
theorem Jjo (fs:List (Int×Fl)) (n m:Int) (f:Fl):(WM (fs++[(n,f)]) m).isSome=((WM fs m).isSome||(n==m)):=by
 rw[Bool.eq_iff_iff,YW,Bool.or_eq_true,YW,List.map_append,List.mem_append,beq_iff_eq]
 refine or_congr Iff.rfl ?_
 simp only[List.map_cons,List.map_nil,List.mem_singleton]
 exact eq_comm
theorem Jjq (fs:List (Int×Fl)) (n m:Int):(WM (fs.filter fun p=> !(p.1==n)) m).isSome=((WM fs m).isSome&& !(m==n)):=by
 rw[Bool.eq_iff_iff,YW,Bool.and_eq_true,YW]
 constructor
 ·intro h
  obtain⟨p,hp,rfl⟩:=List.mem_map.1 h
  rw[List.mem_filter] at hp
  exact⟨List.mem_map.2 ⟨p,hp.1,rfl⟩,hp.2⟩
 ·rintro ⟨h,h2⟩
  obtain⟨p,hp,rfl⟩:=List.mem_map.1 h
  exact List.mem_map.2 ⟨p,List.mem_filter.2 ⟨hp,h2⟩,rfl⟩
def HV (hv:List Bool):AH:=[MO.cells 42 (hv.map .bool)]
structure FInv (hv:List Bool) (fs:List (Int×Fl)):Prop where
 len:hv.length=64
 h:∀n:Int,(WM fs n).isSome=(decide (0≤n∧n<64)&&hv.getD n.toNat false)
theorem Jf6 (l:List Bool) (k j:Nat) (b:Bool) (h:k<l.length):(l.set k b).getD j false=if j=k then b else l.getD j false:=by
 rw[List.getD_eq_getElem?_getD,List.getD_eq_getElem?_getD,List.getElem?_set]
 by_cases hj:k=j
 ·subst hj;simp[h]
 ·rw[if_neg hj,if_neg (Ne.symm hj)]
theorem FInv.put {hv:List Bool} {fs:List (Int×Fl)} (h:FInv hv fs) {n:Int} (h0:0≤n) (h1:n<64) (f:Fl):FInv (hv.set n.toNat true) (fs++[(n,f)]):=by
 refine⟨by simp[h.len],fun m=> ?_⟩
 rw[Jjo,h.h,Jf6 _ _ _ _ (by rw[h.len];omega)]
 by_cases hm:n=m
 ·subst hm;simp[h0,h1]
 ·have hb:(n==m)=false:=by simpa using hm
  rw[hb,Bool.or_false]
  by_cases hr:0≤m∧m<64
  ·rw[if_neg (by omega)]
  ·rw[decide_eq_false hr];rfl
theorem FInv.del {hv:List Bool} {fs:List (Int×Fl)} (h:FInv hv fs) {n:Int} (h0:0≤n) (h1:n<64):FInv (hv.set n.toNat false) (fs.filter fun p=> !(p.1==n)):=by
 refine⟨by simp[h.len],fun m=> ?_⟩
 rw[Jjq,h.h,Jf6 _ _ _ _ (by rw[h.len];omega)]
 by_cases hm:m=n
 ·subst hm;simp
 ·have hb:(m==n)=false:=by simpa using hm
  rw[hb,Bool.not_false,Bool.and_true]
  by_cases hr:0≤m∧m<64
  ·rw[if_neg (by omega)]
  ·rw[decide_eq_false hr];rfl
end Go.Dk

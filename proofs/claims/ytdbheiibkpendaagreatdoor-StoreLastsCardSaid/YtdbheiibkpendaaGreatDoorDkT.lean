/- DiskFiles. -/
import Derived.Test.YtdbheiibkpendaaGreatDoorMDkA
namespace Go.Dk
open Go Go.Gw Go.Proofs.Se.D
set_option linter.unusedSimpArgs false
set_option linter.unusedVariables false
theorem Jcb {fs:List (Int×Fl)} {n:Int}:(WW fs n).isSome=true↔n∈fs.map (·.1):=by
 constructor
 ·intro h
  obtain⟨f,hf⟩:=Option.isSome_iff_exists.1 h
  exact List.mem_map.2 ⟨_,VS hf,rfl⟩
 ·intro h
  cases hg:WW fs n with
  |none=>exact absurd h (YV hg)
  |some f=>rfl
theorem Jkx (fs:List (Int×Fl)) (n m:Int) (f:Fl):(WW (fs++[(n,f)]) m).isSome=((WW fs m).isSome||(n==m)):=by
 rw[Bool.eq_iff_iff,Jcb,Bool.or_eq_true,Jcb,List.map_append,List.mem_append,beq_iff_eq]
 refine or_congr Iff.rfl ?_
 simp only[List.map_cons,List.map_nil,List.mem_singleton]
 exact eq_comm
def HV (hv:List Bool):AH:=[MO.cells 42 (hv.map .bool)]
structure FInv (hv:List Bool) (fs:List (Int×Fl)):Prop where
 len:hv.length=64
 h:∀n:Int,(WW fs n).isSome=(decide (0≤n∧n<64)&&hv.getD n.toNat false)
theorem JkS (l:List Bool) (k j:Nat) (b:Bool) (h:k<l.length):(l.set k b).getD j false=if j=k then b else l.getD j false:=by
 rw[List.getD_eq_getElem?_getD,List.getD_eq_getElem?_getD,List.getElem?_set]
 by_cases hj:k=j
 ·subst hj;simp[h]
 ·rw[if_neg hj,if_neg (Ne.symm hj)]
theorem FInv.put {hv:List Bool} {fs:List (Int×Fl)} (h:FInv hv fs) {n:Int} (h0:0≤n) (h1:n<64) (f:Fl):FInv (hv.set n.toNat true) (fs++[(n,f)]):=by
 refine⟨by simp[h.len],fun m=> ?_⟩
 rw[Jkx,h.h,JkS _ _ _ _ (by rw[h.len];omega)]
 by_cases hm:n=m
 ·subst hm;simp[h0,h1]
 ·have hb:(n==m)=false:=by simpa using hm
  rw[hb,Bool.or_false]
  by_cases hr:0≤m∧m<64
  ·rw[if_neg (by omega)]
  ·rw[decide_eq_false hr];rfl
end Go.Dk
